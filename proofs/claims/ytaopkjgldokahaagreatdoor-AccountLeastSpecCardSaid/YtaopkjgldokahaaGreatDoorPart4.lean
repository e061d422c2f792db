/- Part 4 of the walks and laws that these claims rest on. No condition. -/
import Derived.RangeFuncNested
import Derived.RangeFuncLeaves
import Derived.RangeFuncBound
import Derived.Shelf.Abstract
import Derived.OwnWalkIn
import Derived.TacticsInMore
import Derived.LoopNIn
import Derived.LoopIn
import Derived.BigGuardIn
import Derived.Lib.Hide
import Derived.Maps.AppendAt
import Derived.Shelf.SlIterI.Nil
import Derived.Shelf.SortM.Plain
import Derived.Shelf.SortM.SortNone
import Derived.Test.YtaopkjgldokahaaGreatDoorPart3
set_option linter.all false
set_option linter.unusedSimpArgs false
set_option linter.unusedVariables false
set_option linter.unnecessarySimpa false
namespace Go.Proofs.YtaopkjgldokahaaGreatDoor
open Go.RowKit

/-! What an explanation is. -/
def personI (I : List IssuedD) (c : Int) : Int := match I[c.toNat]? with | some x => x.person | none => 0
def groupS (S : List SeenD) (i : Nat) : Int := match S[i]? with | some s => s.group | none => 0
def fitsI (I : List IssuedD) (S : List SeenD) (c : Int) (i : Nat) : Bool := match I[c.toNat]?, S[i]? with | some x, some s => fitsB x s | _, _ => false
def fitAt (I : List IssuedD) (S : List SeenD) (cs : List Int) (i : Nat) : Bool := match cs[i]? with | some c => decide (0 ≤ c ∧ c < I.length) && fitsI I S c i | none => false
def pairAt (I : List IssuedD) (S : List SeenD) (cs : List Int) (i k : Nat) : Bool := match cs[k]?, cs[i]? with | some a, some b => !decide (a = b) && !decide (groupS S k = groupS S i ∧ ¬ personI I a = personI I b) | _, _ => false
def okI (I : List IssuedD) (S : List SeenD) (cs : List Int) (i : Nat) : Bool := fitAt I S cs i && (List.range i).all (pairAt I S cs i)
def explB (I : List IssuedD) (S : List SeenD) (cs : List Int) : Bool := (List.range cs.length).all (okI I S cs)
theorem range_all {n : Nat} {f : Nat → Bool} : (List.range n).all f = true ↔ ∀ i, i < n → f i = true := by simp
theorem range_all_f {n i : Nat} {f : Nat → Bool} (hi : i < n) (h : f i = false) : (List.range n).all f = false := by
  cases hb : (List.range n).all f with
  | false => rfl
  | true => rw [range_all.1 hb i hi] at h; cases h
/-- an explanation of the first sights, in words -/
structure Ex (I : List IssuedD) (S : List SeenD) (cs : List Int) : Prop where
  fit : ∀ (i : Nat) (c : Int), cs[i]? = some c → 0 ≤ c ∧ c < I.length ∧ fitsI I S c i = true
  apart : ∀ (k i : Nat) (a b : Int), k < i → cs[k]? = some a → cs[i]? = some b → a ≠ b ∧ (groupS S k = groupS S i → personI I a = personI I b)
theorem explB_iff {I : List IssuedD} {S : List SeenD} {cs : List Int} : explB I S cs = true ↔ Ex I S cs := by
  unfold explB
  rw [range_all]
  constructor
  · intro h
    have key : ∀ (i : Nat) (c : Int), cs[i]? = some c → fitAt I S cs i = true ∧ ∀ k, k < i → pairAt I S cs i k = true := fun i c hc => by
      have := h i (List.getElem?_eq_some_iff.1 hc).1
      simp only [okI, Bool.and_eq_true] at this
      exact ⟨this.1, fun k hk => range_all.1 this.2 k hk⟩
    refine ⟨fun i c hc => ?_, fun k i a b hk ha hb => ?_⟩
    · have := (key i c hc).1
      simp only [fitAt, hc, Bool.and_eq_true, decide_eq_true_eq] at this
      exact ⟨this.1.1, this.1.2, this.2⟩
    · have := (key i b hb).2 k hk
      simp only [pairAt, ha, hb, Bool.and_eq_true, Bool.not_eq_true', decide_eq_false_iff_not] at this
      refine ⟨this.1, fun hg => Classical.byContradiction fun q => this.2 ⟨hg, q⟩⟩
  · intro h i hi
    have hc : cs[i]? = some cs[i] := List.getElem?_eq_getElem hi
    simp only [okI, Bool.and_eq_true]
    refine ⟨?_, range_all.2 fun k hk => ?_⟩
    · obtain ⟨h1, h2, h3⟩ := h.fit i _ hc
      simp [fitAt, h1, h2, h3, hi]
    · have ha : cs[k]? = some (cs[k]'(by omega)) := List.getElem?_eq_getElem (by omega)
      obtain ⟨h1, h2⟩ := h.apart k i _ _ hk ha hc
      simp only [pairAt, ha, hc, Bool.and_eq_true, Bool.not_eq_true', decide_eq_false_iff_not]
      exact ⟨h1, fun q => q.2 (h2 q.1)⟩
theorem fitsI_eq {I : List IssuedD} {S : List SeenD} {c : Int} {i : Nat} {x : IssuedD} {s : SeenD} (hx : I[c.toNat]? = some x) (hs : S[i]? = some s) : fitsI I S c i = fitsB x s := by simp [fitsI, hx, hs]
theorem personI_eq {I : List IssuedD} {c : Int} {x : IssuedD} (hx : I[c.toNat]? = some x) : personI I c = x.person := by simp [personI, hx]
theorem groupS_eq {S : List SeenD} {i : Nat} {s : SeenD} (hs : S[i]? = some s) : groupS S i = s.group := by simp [groupS, hs]
theorem fitAt_eq {I : List IssuedD} {S : List SeenD} {cs : List Int} {i : Nat} {c : Int} {x : IssuedD} {s : SeenD} (hc : cs[i]? = some c) (h0 : 0 ≤ c) (hl : c.toNat < I.length) (hx : I[c.toNat]? = some x) (hs : S[i]? = some s) : fitAt I S cs i = fitsB x s := by
  simp only [fitAt, hc, fitsI_eq hx hs]
  rw [decide_eq_true ⟨h0, by omega⟩, Bool.true_and]
theorem fitAt_no {I : List IssuedD} {S : List SeenD} {cs : List Int} {i : Nat} {c : Int} (hc : cs[i]? = some c) (h0 : ¬ (0 ≤ c ∧ c.toNat < I.length)) : fitAt I S cs i = false := by
  simp only [fitAt, hc]
  rw [decide_eq_false (fun h => h0 ⟨h.1, by omega⟩)]
  rfl
end Go.Proofs.YtaopkjgldokahaaGreatDoor
namespace Go.Proofs.YtaopkjgldokahaaGreatDoor
open Go.RowKit

/-! The reference: Issued, Seen, Check. -/
set_option maxRecDepth 100000 in
set_option maxHeartbeats 4000000 in
theorem Issued_pure (x : IssuedD) (hx : x.values.length < 9223372036854775807) : Pure Tryz.prog 51 [.agg x.c] (boolD (issB x)) := by
  obtain ⟨r, hr⟩ : ∃ r, r = issB x := ⟨_, rfl⟩
  rw [← hr]
  obtain ⟨xr, xp, xn, xs⟩ := x
  simp only at hx
  simp only [issB] at hr
  have hV := values_pure xs (some (.var xn)) hx
  obtain ⟨vb, hvb⟩ : ∃ b, b = valsB xs := ⟨_, rfl⟩
  rw [← hvb] at hV hr
  have hin := in_pure xp 0 4095
  obtain ⟨ib, hib⟩ : ∃ b, b = decide (0 ≤ xp ∧ xp ≤ 4095) := ⟨_, rfl⟩
  rw [← hib] at hin
  refine Pure.intro (want := [boolD r]) T_ok follows Tryz.func51 rfl (by kernel_rfl) (rs := [.tmp 2]) rfl (by kernel_rfl) ?_
  generalize hP : Tryz.prog = P at *
  have hT : T.ok P := hP ▸ T_ok
  have hm : P.follows .mixedOrders = true := hP ▸ follows
  unfold Tryz.f51
  dsimp only
  cbv
  refine SplitP.mk (fun hs => ?_) (fun hs => ?_) <;> simp only [BE.lss_t, BE.lss_f, BE.leq_t, BE.leq_f, BE.gtr_t, BE.gtr_f, BE.geq_t, BE.geq_f, BE.eql_t, BE.eql_f, BE.neq_t, BE.neq_f, BE.not_t, BE.not_f, BE.var_d, BE.lit_d, BE.seq_t, BE.seq_f, BE.beq_t, BE.beq_f, IE.var_d, IE.lit_d, IE.nat_d, IE.len_d, IE.sum_d, IE.u8_d, ncast, Int.ofNat_lt, Int.ofNat_le, Int.ofNat_inj] at hs
  rotate_left
  · refine .mk (.cons (.eq (.bool ?_)) .nil) rfl
    rw [BE.lit_d, BE.var_d]
    rw [hr, decide_eq_false (by omega)]; rfl
  refine CallP.pure _ hin rfl ?_
  cbv
  refine SplitP.mk (fun h2 => ?_) (fun h2 => ?_)
  rotate_left
  · replace h2 : ib = false := h2
    rw [hib] at h2
    have := of_decide_eq_false h2
    refine .mk (.cons (.eq (.bool ?_)) .nil) rfl
    rw [BE.lit_d, BE.var_d]
    rw [hr, decide_eq_false (by omega)]; rfl
  replace h2 : ib = true := h2
  rw [hib] at h2
  have h2 := of_decide_eq_true h2
  refine SplitP.mk (fun h3 => ?_) (fun h3 => ?_)
  rotate_left
  · have := of_decide_eq_false (show decide ((xs.length : Int) ≤ 12) = false from h3)
    refine .mk (.cons (.eq (.bool ?_)) .nil) rfl
    rw [BE.lit_d, BE.var_d]
    rw [hr, decide_eq_false (by omega)]; rfl
  have h3 : xs.length ≤ 12 := by have := of_decide_eq_true (show decide ((xs.length : Int) ≤ 12) = true from h3); omega
  refine CallP.pure _ hV rfl ?_
  cbv
  refine .mk (.cons (.eq (.bool ?_)) .nil) rfl
  show vb = r
  rw [hr, decide_eq_true (by omega), Bool.true_and]
theorem ris_step (f : Int → Int → Bool) (hf : f = inB) (last x : Int) (l : List Int) : risB last (x :: l) = (decide (last < x ∧ x < 12) && risB x l) := rfl
set_option maxRecDepth 100000 in
set_option maxHeartbeats 4000000 in
theorem Seen_pure (s : SeenD) (hf : s.fields.length < 9223372036854775807) (hv : s.values.length < 9223372036854775807) : Pure Tryz.prog 52 [.agg s.c] (boolD (seenB s)) := by
  obtain ⟨r, hr⟩ : ∃ r, r = seenB s := ⟨_, rfl⟩
  rw [← hr]
  obtain ⟨sg, sr, sn, fs, sm, vs⟩ := s
  simp only at hf hv
  simp only [seenB] at hr
  have hV := values_pure vs (some (.var sm)) hv
  obtain ⟨vb, hvb⟩ : ∃ b, b = valsB vs := ⟨_, rfl⟩
  rw [← hvb] at hV hr
  obtain ⟨ib, hib⟩ : ∃ f, f = inB := ⟨_, rfl⟩
  have hin : ∀ x : Int, Pure Tryz.prog 68 [i64 x, .int .i64 (.lit 0), .int .i64 (.lit 11)] (boolD (ib x 11)) := fun x => by rw [hib]; exact in_pure x 0 11
  obtain ⟨n, hn⟩ : ∃ n : Nat, n = fs.length := ⟨_, rfl⟩
  obtain ⟨gb, hgb⟩ : ∃ b, b = decide (0 ≤ sg ∧ 0 ≤ sr ∧ fs.length = vs.length) := ⟨_, rfl⟩
  rw [← hgb] at hr
  have r0 : risB (-1) fs = false → r = false := fun h => by rw [hr, h]; simp
  obtain ⟨prev, hprev⟩ : ∃ f : Nat → Int, f = fun k => if k = 0 then -1 else (fs[k - 1]?).getD 0 := ⟨_, rfl⟩
  refine Pure.intro (want := [boolD r]) T_ok follows Tryz.func52 rfl (by kernel_rfl) (rs := [.tmp 2]) rfl (by kernel_rfl) ?_
  generalize hP : Tryz.prog = P at *
  have hT : T.ok P := hP ▸ T_ok
  have hm : P.follows .mixedOrders = true := hP ▸ follows
  unfold Tryz.f52
  dsimp only
  cbv
  refine CodeP.loopc hT hm (X := Nat) (fun k => [(3, .int .i64 (.nat k))]) (fun k => k ≤ fs.length ∧ risB (-1) fs = risB (prev k) (fs.drop k) ∧ (0 < k → 0 ≤ prev k)) (fun k => n - k) 0 ⟨by simp, by rw [hprev]; rfl, fun h => by omega⟩ (by simp) ?_ rfl ?_
  · (cbv; (repeat' (first | exact SnD.refl _ | exact trivial | exact SnD.nat0 | refine And.intro ?_ ?_)))
  intro k ⟨hk, hq, hpos⟩
  cbv
  refine SplitP.mk (fun hs => ?_) (fun hs => ?_)
  · have hkn : k < fs.length := by
      have h5 : decide ((k : Int) < (fs.length : Int)) = true := hs
      have := of_decide_eq_true h5
      omega
    clear hs
    refine DrawP.mk (by kernel_rfl) ?_
    cbv
    refine ElemP.mk (by show (0 : Int) ≤ (k : Int) ∧ (k : Int) < (fs.length : Int); omega) (fun f hf1 => ?_)
    replace hf1 : fs[k]? = some f := hf1
    rw [drop_cons hf1] at hq
    simp only [risB] at hq
    have hp0 : k = 0 → prev k = -1 := fun e => by rw [hprev]; simp [e]
    have hp1 : prev (k + 1) = f := by rw [hprev]; simp [hf1]
    cbv
    refine PureP.mk _ (hin f) rfl ?_
    cbv
    refine SplitP.mk (fun h4 => ?_) (fun h4 => ?_)
    · replace h4 : ib f 11 = false := by simpa using (show (!ib f 11) = true from h4)
      rw [hib] at h4
      have := inB_f h4
      have hk0 : prev k < f ∧ f < 12 → False := fun h => by
        rcases Nat.eq_zero_or_pos k with q | q
        · have := hp0 q; omega
        · have := hpos q; omega
      refine .mk (.cons (.eq (.bool ?_)) .nil) rfl
      rw [BE.lit_d, BE.var_d]
      rw [r0 (by rw [hq, decide_eq_false (fun h => hk0 h)]; rfl)]
    replace h4 : ib f 11 = true := by simpa using (show (!ib f 11) = false from h4)
    rw [hib] at h4
    have h5 := inB_t h4
    refine SplitP.mk (fun h6 => ?_) (fun h6 => ?_)
    · have hk0 : 0 < k := by have := of_decide_eq_true (show decide ((k : Int) > 0) = true from h6); omega
      have e1 : IE.den (.bin .sub .i64 (.nat k) (.lit 1)) = ((k - 1 : Nat) : Int) := by
        show binDen .sub .i64 (k : Int) 1 = _
        rw [sub64 (by omega) (by omega)]
        omega
      refine ElemP.mk (by rw [e1]; constructor <;> omega) (fun p hp => ?_)
      rw [e1] at hp
      replace hp : fs[k - 1]? = some p := hp
      have hpp : prev k = p := by rw [hprev]; simp [hp]; omega
      cbv
      refine ElemP.mk (by show (0 : Int) ≤ (k : Int) ∧ (k : Int) < (fs.length : Int); omega) (fun f2 hf2 => ?_)
      replace hf2 : fs[k]? = some f2 := hf2
      rw [hf1] at hf2
      simp only [Option.some.injEq] at hf2
      subst hf2
      cbv
      refine SplitP.mk (fun h7 => ?_) (fun h7 => ?_) <;> simp only [BE.geq_t, BE.geq_f, IE.var_d] at h7
      · refine .mk (.cons (.eq (.bool ?_)) .nil) rfl
        rw [BE.lit_d, BE.var_d]
        rw [r0 (by rw [hq, decide_eq_false (by omega)]; rfl)]
      · refine BackP.intro (k + 1) ⟨by omega, by rw [hq, hp1, decide_eq_true (by omega)]; rfl, fun _ => by rw [hp1]; omega⟩ (by show n - (k + 1) < n - k; omega) ⟨?_, HEnt.refl _, rfl⟩
        (cbv; (repeat' (first | exact SnD.refl _ | exact trivial | exact SnD.nat0 | refine And.intro ?_ ?_)))
        exact .inc (by omega)
    · have hk0 : k = 0 := by have := of_decide_eq_false (show decide ((k : Int) > 0) = false from h6); omega
      have := hp0 hk0
      refine BackP.intro (k + 1) ⟨by omega, by rw [hq, hp1, decide_eq_true (by omega)]; rfl, fun _ => by rw [hp1]; omega⟩ (by show n - (k + 1) < n - k; omega) ⟨?_, HEnt.refl _, rfl⟩
      (cbv; (repeat' (first | exact SnD.refl _ | exact trivial | exact SnD.nat0 | refine And.intro ?_ ?_)))
      exact .inc (by omega)
  · have hkn : fs.length ≤ k := by
      have h5 : decide ((k : Int) < (fs.length : Int)) = false := hs
      have := of_decide_eq_false h5
      omega
    clear hs
    have r1 : risB (-1) fs = true := by rw [hq, List.drop_of_length_le (by omega)]; rfl
    rw [r1, Bool.true_and] at hr
    clear hq r0 r1
    refine SplitP.mk (fun h1 => ?_) (fun h1 => ?_) <;> simp only [BE.geq_t, BE.geq_f, IE.var_d, IE.lit_d] at h1
    rotate_left
    · refine .mk (.cons (.eq (.bool ?_)) .nil) rfl
      rw [BE.lit_d, BE.var_d]
      rw [hr, hgb, decide_eq_false (by omega)]; rfl
    refine SplitP.mk (fun h2 => ?_) (fun h2 => ?_) <;> simp only [BE.geq_t, BE.geq_f, IE.var_d, IE.lit_d] at h2
    rotate_left
    · refine .mk (.cons (.eq (.bool ?_)) .nil) rfl
      rw [BE.lit_d, BE.var_d]
      rw [hr, hgb, decide_eq_false (by omega)]; rfl
    refine SplitP.mk (fun h3 => ?_) (fun h3 => ?_)
    rotate_left
    · have h4 : ((vs.length : Int) == (fs.length : Int)) = false := h3
      refine .mk (.cons (.eq (.bool ?_)) .nil) rfl
      rw [BE.lit_d, BE.var_d]
      rw [hr, hgb, decide_eq_false (fun e => by rw [e.2.2] at h4; simp at h4)]; rfl
    have h4 : fs.length = vs.length := by
      have h4 : ((vs.length : Int) == (fs.length : Int)) = true := h3
      simp at h4
      omega
    refine CallP.pure _ hV rfl ?_
    cbv
    refine .mk (.cons (.eq (.bool ?_)) .nil) rfl
    show vb = r
    rw [hr, hgb, decide_eq_true ⟨h1, h2, h4⟩, Bool.true_and]
set_option maxRecDepth 100000 in
set_option maxHeartbeats 4000000 in
theorem RCheck_pure (l : List IssuedD) (m : List SeenD) (na nb : Option BE) (hl : BigI l) (hs' : BigS m) : Pure Tryz.prog 32 [.slm 3 na IssuedD.c l, .slm 4 nb SeenD.c m] (i64 (if checkB l m then 0 else 300)) := by
  have hI : ∀ x ∈ l, Pure Tryz.prog 51 [.agg x.c] (boolD (issB x)) := fun x hx => Issued_pure x (hl.vals x hx)
  have hS : ∀ x ∈ m, Pure Tryz.prog 52 [.agg x.c] (boolD (seenB x)) := fun x hx => Seen_pure x (hs'.fields x hx) (hs'.vals x hx)
  have hl0 := hl.len
  have hm0 := hs'.len
  obtain ⟨ok, hok⟩ : ∃ b, b = checkB l m := ⟨_, rfl⟩
  rw [← hok]
  simp only [checkB] at hok
  obtain ⟨fi, hfi⟩ : ∃ f, f = issB := ⟨_, rfl⟩
  obtain ⟨fs, hfs⟩ : ∃ f, f = seenB := ⟨_, rfl⟩
  rw [← hfi] at hI hok
  rw [← hfs] at hS hok
  obtain ⟨r, hr⟩ : ∃ r : Int, r = if ok then 0 else 300 := ⟨_, rfl⟩
  rw [← hr]
  have bad : ok = false → (300 : Int) = r := fun h => by rw [hr, h]; rfl
  obtain ⟨n, hn⟩ : ∃ n : Nat, n = l.length := ⟨_, rfl⟩
  obtain ⟨n2, hn2⟩ : ∃ n : Nat, n = m.length := ⟨_, rfl⟩
  refine Pure.intro (want := [i64 r]) T_ok follows Tryz.func32 rfl (by kernel_rfl) (rs := [.tmp 4]) rfl (by kernel_rfl) ?_
  generalize hP : Tryz.prog = P at *
  have hT : T.ok P := hP ▸ T_ok
  have hm : P.follows .mixedOrders = true := hP ▸ follows
  unfold Tryz.f32
  dsimp only
  cbv
  refine SplitP.mk (fun h1 => ?_) (fun h1 => ?_)
  · have := of_decide_eq_true (show decide ((l.length : Int) > 64) = true from h1)
    refine .mk (.cons (.eq (.int ?_)) .nil) rfl
    rw [IE.lit_d, IE.var_d]
    exact bad (by rw [hok, decide_eq_false (by omega)]; rfl)
  have h1 : l.length ≤ 64 := by have := of_decide_eq_false (show decide ((l.length : Int) > 64) = false from h1); omega
  refine SplitP.mk (fun h2 => ?_) (fun h2 => ?_)
  · have := of_decide_eq_true (show decide ((m.length : Int) > 16) = true from h2)
    refine .mk (.cons (.eq (.int ?_)) .nil) rfl
    rw [IE.lit_d, IE.var_d]
    exact bad (by rw [hok, decide_eq_false (by omega)]; rfl)
  have h2 : m.length ≤ 16 := by have := of_decide_eq_false (show decide ((m.length : Int) > 16) = false from h2); omega
  rw [decide_eq_true ⟨h1, h2⟩, Bool.true_and] at hok
  refine CodeP.loopc hT hm (X := Nat) (fun k => [(5, .int .i64 (.nat k))]) (fun k => k ≤ l.length ∧ ok = ((l.drop k).all fi && m.all fs)) (fun k => n - k) 0 ⟨by simp, hok⟩ (Nat.zero_le _) ?_ rfl ?_
  · (cbv; (repeat' (first | exact SnD.refl _ | exact trivial | exact SnD.nat0 | refine And.intro ?_ ?_)))
  intro k ⟨hk, hq⟩
  cbv
  refine SplitP.mk (fun hs => ?_) (fun hs => ?_)
  · have hkn : k < l.length := by
      have h5 : decide ((k : Int) < (l.length : Int)) = true := hs
      have := of_decide_eq_true h5
      omega
    clear hs
    refine ElemP.mk (by show (0 : Int) ≤ (k : Int) ∧ (k : Int) < (l.length : Int); omega) (fun x hx => ?_)
    replace hx : l[k]? = some x := hx
    have hIx := hI x (List.mem_of_getElem? hx)
    rw [drop_cons hx] at hq
    simp only [List.all_cons] at hq
    obtain ⟨fx, hfx⟩ : ∃ b, b = fi x := ⟨_, rfl⟩
    rw [← hfx] at hIx hq
    clear hfx
    obtain ⟨xr, xp, xn, xv⟩ := x
    cbv
    refine CallP.pure _ hIx rfl ?_
    cbv
    refine SplitP.mk (fun hs => ?_) (fun hs => ?_)
    · replace hs : fx = false := by simpa using (show (!fx) = true from hs)
      refine .mk (.cons (.eq (.int ?_)) .nil) rfl
      rw [IE.lit_d, IE.var_d]
      exact bad (by rw [hq, hs]; rfl)
    · replace hs : fx = true := by simpa using (show (!fx) = false from hs)
      refine BackP.intro (k + 1) ⟨by omega, by rw [hq, hs]; rfl⟩ (by show n - (k + 1) < n - k; omega) ⟨?_, HEnt.refl _, rfl⟩
      (cbv; (repeat' (first | exact SnD.refl _ | exact trivial | exact SnD.nat0 | refine And.intro ?_ ?_)))
      exact .inc (by omega)
  have hkn : l.length ≤ k := by
    have h5 : decide ((k : Int) < (l.length : Int)) = false := hs
    have := of_decide_eq_false h5
    omega
  clear hs
  have hr2 : ok = m.all fs := by rw [hq, List.drop_of_length_le (by omega)]; rfl
  clear hq hok hkn hk
  refine CodeP.loopc hT hm (X := Nat) (fun k => [(6, .int .i64 (.nat k))]) (fun k => k ≤ m.length ∧ ok = (m.drop k).all fs) (fun k => n2 - k) 0 ⟨by simp, hr2⟩ (Nat.zero_le _) ?_ rfl ?_
  · (cbv; (repeat' (first | exact SnD.refl _ | exact trivial | exact SnD.nat0 | refine And.intro ?_ ?_)))
  intro j ⟨hj, hq⟩
  cbv
  refine SplitP.mk (fun hs => ?_) (fun hs => ?_)
  · have hkn : j < m.length := by
      have h5 : decide ((j : Int) < (m.length : Int)) = true := hs
      have := of_decide_eq_true h5
      omega
    clear hs
    refine ElemP.mk (by show (0 : Int) ≤ (j : Int) ∧ (j : Int) < (m.length : Int); omega) (fun x hx => ?_)
    replace hx : m[j]? = some x := hx
    have hSx := hS x (List.mem_of_getElem? hx)
    rw [drop_cons hx] at hq
    simp only [List.all_cons] at hq
    obtain ⟨fx, hfx⟩ : ∃ b, b = fs x := ⟨_, rfl⟩
    rw [← hfx] at hSx hq
    clear hfx
    obtain ⟨sg, sr, sn, sf, sm, sv⟩ := x
    cbv
    refine CallP.pure _ hSx rfl ?_
    cbv
    refine SplitP.mk (fun hs => ?_) (fun hs => ?_)
    · replace hs : fx = false := by simpa using (show (!fx) = true from hs)
      refine .mk (.cons (.eq (.int ?_)) .nil) rfl
      rw [IE.lit_d, IE.var_d]
      exact bad (by rw [hq, hs]; rfl)
    · replace hs : fx = true := by simpa using (show (!fx) = false from hs)
      refine BackP.intro (j + 1) ⟨by omega, by rw [hq, hs]; rfl⟩ (by show n2 - (j + 1) < n2 - j; omega) ⟨?_, HEnt.refl _, rfl⟩
      (cbv; (repeat' (first | exact SnD.refl _ | exact trivial | exact SnD.nat0 | refine And.intro ?_ ?_)))
      exact .inc (by omega)
  · have hkn : m.length ≤ j := by
      have h5 : decide ((j : Int) < (m.length : Int)) = false := hs
      have := of_decide_eq_false h5
      omega
    clear hs
    have : ok = true := by rw [hq, List.drop_of_length_le (by omega)]; rfl
    refine .mk (.cons (.eq (.int ?_)) .nil) rfl
    rw [IE.lit_d, IE.var_d]
    rw [hr, this]; rfl
end Go.Proofs.YtaopkjgldokahaaGreatDoor
namespace Go.Proofs.YtaopkjgldokahaaGreatDoor
open Go.RowKit

/-! Fits, of the program and of the reference. -/
theorem fitF_len : ∀ (xs fs vs : List Int), fs.length > vs.length → fitF xs fs vs = false
  | xs, [], vs, h => by simp at h
  | xs, f :: fs, [], h => rfl
  | xs, f :: fs, v :: vs, h => by
    simp only [fitF]
    rw [fitF_len xs fs vs (by simpa using h)]
    simp
set_option maxRecDepth 100000 in
set_option maxHeartbeats 4000000 in
theorem Fits_pure (x : IssuedD) (s : SeenD) (hx : x.values.length < 9223372036854775807) (hf : s.fields.length < 9223372036854775807) (hv : s.values.length < 9223372036854775807) : Pure Tryz.prog 90 [.agg x.c, .agg s.c] (boolD (fitsB x s)) := by
  obtain ⟨r, hr⟩ : ∃ r, r = fitsB x s := ⟨_, rfl⟩
  rw [← hr]
  obtain ⟨xr, xp, xn, xs⟩ := x
  obtain ⟨sg, sr, sn, fs, sm, vs⟩ := s
  simp only at hx hf hv
  simp only [fitsB] at hr
  obtain ⟨n, hn⟩ : ∃ n : Nat, n = fs.length := ⟨_, rfl⟩
  refine Pure.intro (want := [boolD r]) T_ok follows Tryz.func90 rfl (by kernel_rfl) (rs := [.tmp 4]) rfl (by kernel_rfl) ?_
  generalize hP : Tryz.prog = P
  have hT : T.ok P := hP ▸ T_ok
  have hm : P.follows .mixedOrders = true := hP ▸ follows
  unfold Tryz.f90
  dsimp only
  cbv
  refine SplitP.mk (fun hs => ?_) (fun hs => ?_) <;> simp only [BE.neq_t, BE.neq_f, IE.var_d] at hs
  · refine .mk (.cons (.eq (.bool ?_)) .nil) rfl
    rw [BE.lit_d, BE.var_d]
    rw [hr, decide_eq_false (fun e => hs e.1)]; rfl
  refine SplitP.mk (fun h2 => ?_) (fun h2 => ?_)
  · have h3 := of_decide_eq_true (show decide ((vs.length : Int) < (fs.length : Int)) = true from h2)
    refine .mk (.cons (.eq (.bool ?_)) .nil) rfl
    rw [BE.lit_d, BE.var_d]
    rw [hr, decide_eq_false (by omega)]; rfl
  have h3 : fs.length ≤ vs.length := by have := of_decide_eq_false (show decide ((vs.length : Int) < (fs.length : Int)) = false from h2); omega
  rw [decide_eq_true (by omega), Bool.true_and] at hr
  clear h2
  refine CodeP.loopc hT hm (X := Nat) (fun k => [(24, .int .i64 (.nat k))]) (fun k => k ≤ fs.length ∧ r = fitF xs (fs.drop k) (vs.drop k)) (fun k => n - k) 0 ⟨by simp, hr⟩ (by simp) ?_ rfl ?_
  · (cbv; (repeat' (first | exact SnD.refl _ | exact trivial | exact SnD.nat0 | refine And.intro ?_ ?_)))
  intro k ⟨hk, hq⟩
  cbv
  refine SplitP.mk (fun hs => ?_) (fun hs => ?_)
  · have hkn : k < fs.length := by
      have h5 : decide ((k : Int) < (fs.length : Int)) = true := hs
      have := of_decide_eq_true h5
      omega
    clear hs
    refine ElemP.mk (by show (0 : Int) ≤ (k : Int) ∧ (k : Int) < (fs.length : Int); omega) (fun f hf1 => ?_)
    replace hf1 : fs[k]? = some f := hf1
    obtain ⟨v, hv1⟩ : ∃ v, vs[k]? = some v := ⟨_, List.getElem?_eq_getElem (by omega)⟩
    rw [drop_cons hf1, drop_cons hv1] at hq
    simp only [fitF] at hq
    cbv
    refine SplitP.mk (fun h4 => ?_) (fun h4 => ?_) <;> simp only [BE.lss_t, BE.lss_f, IE.var_d, IE.lit_d] at h4
    · refine .mk (.cons (.eq (.bool ?_)) .nil) rfl
      rw [BE.lit_d, BE.var_d]
      rw [hq, decide_eq_false (by omega)]; rfl
    refine SplitP.mk (fun h5 => ?_) (fun h5 => ?_)
    · have h6 := of_decide_eq_true (show decide (f ≥ (xs.length : Int)) = true from h5)
      refine .mk (.cons (.eq (.bool ?_)) .nil) rfl
      rw [BE.lit_d, BE.var_d]
      rw [hq, decide_eq_false (by ((try simp only [ncast] at *); omega))]; rfl
    have h6 : f.toNat < xs.length := by have := of_decide_eq_false (show decide (f ≥ (xs.length : Int)) = false from h5); omega
    refine ElemP.mk (by show (0 : Int) ≤ f ∧ f < (xs.length : Int); omega) (fun a ha => ?_)
    replace ha : xs[f.toNat]? = some a := ha
    cbv
    refine ElemP.mk (by show (0 : Int) ≤ (k : Int) ∧ (k : Int) < (vs.length : Int); omega) (fun v2 hv2 => ?_)
    replace hv2 : vs[k]? = some v2 := hv2
    rw [hv1] at hv2
    simp only [Option.some.injEq] at hv2
    subst hv2
    cbv
    rw [ha] at hq
    simp only [Option.some.injEq] at hq
    refine SplitP.mk (fun h7 => ?_) (fun h7 => ?_) <;> simp only [BE.neq_t, BE.neq_f, IE.var_d] at h7
    · refine .mk (.cons (.eq (.bool ?_)) .nil) rfl
      rw [BE.lit_d, BE.var_d]
      rw [hq, decide_eq_false (fun e => h7 e.2.2)]; rfl
    · refine BackP.intro (k + 1) ⟨by omega, by rw [hq, decide_eq_true ⟨by omega, by ((try simp only [ncast] at *); omega), h7⟩]; rfl⟩ (by show n - (k + 1) < n - k; omega) ⟨?_, HEnt.refl _, rfl⟩
      (cbv; (repeat' (first | exact SnD.refl _ | exact trivial | exact SnD.nat0 | refine And.intro ?_ ?_)))
      exact .inc (by omega)
  · have hkn : fs.length ≤ k := by
      have h5 : decide ((k : Int) < (fs.length : Int)) = false := hs
      have := of_decide_eq_false h5
      omega
    clear hs
    refine .mk (.cons (.eq (.bool ?_)) .nil) rfl
    rw [BE.lit_d, BE.var_d]
    rw [hq, List.drop_of_length_le (by omega)]; rfl
set_option maxRecDepth 100000 in
set_option maxHeartbeats 4000000 in
theorem RFits_pure (x : IssuedD) (s : SeenD) (hx : x.values.length < 9223372036854775807) (hf : s.fields.length < 9223372036854775807) (hv : s.values.length < 9223372036854775807) : Pure Tryz.prog 94 [.agg x.c, .agg s.c] (boolD (fitsB x s)) := by
  obtain ⟨r, hr⟩ : ∃ r, r = fitsB x s := ⟨_, rfl⟩
  rw [← hr]
  obtain ⟨xr, xp, xn, xs⟩ := x
  obtain ⟨sg, sr, sn, fs, sm, vs⟩ := s
  simp only at hx hf hv
  simp only [fitsB] at hr
  obtain ⟨n, hn⟩ : ∃ n : Nat, n = fs.length := ⟨_, rfl⟩
  obtain ⟨vb, hvb⟩ : ∃ f, f = inB := ⟨_, rfl⟩
  have hin := in_len xs.length hx vb hvb
  refine Pure.intro (want := [boolD r]) T_ok follows Tryz.func94 rfl (by kernel_rfl) (rs := [.tmp 4]) rfl (by kernel_rfl) ?_
  generalize hP : Tryz.prog = P at *
  have hT : T.ok P := hP ▸ T_ok
  have hm : P.follows .mixedOrders = true := hP ▸ follows
  unfold Tryz.f94
  dsimp only
  cbv
  refine SplitP.mk (fun hs => ?_) (fun hs => ?_) <;> simp only [BE.neq_t, BE.neq_f, IE.var_d] at hs
  · refine .mk (.cons (.eq (.bool ?_)) .nil) rfl
    rw [BE.lit_d, BE.var_d]
    rw [hr, decide_eq_false (fun e => hs e.1)]; rfl
  refine SplitP.mk (fun h2 => ?_) (fun h2 => ?_)
  · have h3 := of_decide_eq_true (show decide ((vs.length : Int) < (fs.length : Int)) = true from h2)
    refine .mk (.cons (.eq (.bool ?_)) .nil) rfl
    rw [BE.lit_d, BE.var_d]
    rw [hr, decide_eq_false (by omega)]; rfl
  have h3 : fs.length ≤ vs.length := by have := of_decide_eq_false (show decide ((vs.length : Int) < (fs.length : Int)) = false from h2); omega
  rw [decide_eq_true (by omega), Bool.true_and] at hr
  clear h2
  refine CodeP.loopc hT hm (X := Nat) (fun k => [(5, .int .i64 (.nat k))]) (fun k => k ≤ fs.length ∧ r = fitF xs (fs.drop k) (vs.drop k)) (fun k => n - k) 0 ⟨by simp, hr⟩ (by simp) ?_ rfl ?_
  · (cbv; (repeat' (first | exact SnD.refl _ | exact trivial | exact SnD.nat0 | refine And.intro ?_ ?_)))
  intro k ⟨hk, hq⟩
  cbv
  refine SplitP.mk (fun hs => ?_) (fun hs => ?_)
  · have hkn : k < fs.length := by
      have h5 : decide ((k : Int) < (fs.length : Int)) = true := hs
      have := of_decide_eq_true h5
      omega
    clear hs
    refine ElemP.mk (by show (0 : Int) ≤ (k : Int) ∧ (k : Int) < (fs.length : Int); omega) (fun f hf1 => ?_)
    replace hf1 : fs[k]? = some f := hf1
    obtain ⟨v, hv1⟩ : ∃ v, vs[k]? = some v := ⟨_, List.getElem?_eq_getElem (by omega)⟩
    rw [drop_cons hf1, drop_cons hv1] at hq
    simp only [fitF] at hq
    cbv
    refine PureP.mk _ (hin _ (by rfl) f) rfl ?_
    cbv
    refine SplitP.mk (fun h4 => ?_) (fun h4 => ?_)
    · replace h4 : vb f ((xs.length : Int) - 1) = false := by simpa using (show (!vb f ((xs.length : Int) - 1)) = true from h4)
      rw [hvb] at h4
      have := inB_f h4
      refine .mk (.cons (.eq (.bool ?_)) .nil) rfl
      rw [BE.lit_d, BE.var_d]
      rw [hq, decide_eq_false (by ((try simp only [ncast] at *); omega))]; rfl
    replace h4 : vb f ((xs.length : Int) - 1) = true := by simpa using (show (!vb f ((xs.length : Int) - 1)) = false from h4)
    rw [hvb] at h4
    have h5 := (inB_t h4).1
    have h6 : f.toNat < xs.length := by have := (inB_t h4).2; omega
    clear h4
    refine ElemP.mk (by show (0 : Int) ≤ f ∧ f < (xs.length : Int); omega) (fun a ha => ?_)
    replace ha : xs[f.toNat]? = some a := ha
    cbv
    refine ElemP.mk (by show (0 : Int) ≤ (k : Int) ∧ (k : Int) < (vs.length : Int); omega) (fun v2 hv2 => ?_)
    replace hv2 : vs[k]? = some v2 := hv2
    rw [hv1] at hv2
    simp only [Option.some.injEq] at hv2
    subst hv2
    cbv
    rw [ha] at hq
    simp only [Option.some.injEq] at hq
    refine SplitP.mk (fun h7 => ?_) (fun h7 => ?_) <;> simp only [BE.neq_t, BE.neq_f, IE.var_d] at h7
    · refine .mk (.cons (.eq (.bool ?_)) .nil) rfl
      rw [BE.lit_d, BE.var_d]
      rw [hq, decide_eq_false (fun e => h7 e.2.2)]; rfl
    · refine BackP.intro (k + 1) ⟨by omega, by rw [hq, decide_eq_true ⟨by omega, by ((try simp only [ncast] at *); omega), h7⟩]; rfl⟩ (by show n - (k + 1) < n - k; omega) ⟨?_, HEnt.refl _, rfl⟩
      (cbv; (repeat' (first | exact SnD.refl _ | exact trivial | exact SnD.nat0 | refine And.intro ?_ ?_)))
      exact .inc (by omega)
  · have hkn : fs.length ≤ k := by
      have h5 : decide ((k : Int) < (fs.length : Int)) = false := hs
      have := of_decide_eq_false h5
      omega
    clear hs
    refine .mk (.cons (.eq (.bool ?_)) .nil) rfl
    rw [BE.lit_d, BE.var_d]
    rw [hq, List.drop_of_length_le (by omega)]; rfl
end Go.Proofs.YtaopkjgldokahaaGreatDoor
namespace Go.Proofs.YtaopkjgldokahaaGreatDoor
open Go.RowKit

/-! The reference: explains, Explains. -/
set_option maxRecDepth 100000 in
set_option maxHeartbeats 4000000 in
theorem explains_pure (l : List IssuedD) (m : List SeenD) (cs : List Int) (na nb nc : Option BE) (hl : BigI l) (hs' : BigS m) (hc : cs.length < 9223372036854775807) (hcm : cs.length ≤ m.length) : Pure Tryz.prog 84 [.slm 3 na IssuedD.c l, .slm 4 nb SeenD.c m, .slm 1 nc intC cs] (boolD (explB l m cs)) := by
  obtain ⟨r, hr⟩ : ∃ r, r = explB l m cs := ⟨_, rfl⟩
  rw [← hr]
  have hl0 := hl.len
  have hm0 := hs'.len
  obtain ⟨n, hn⟩ : ∃ n : Nat, n = cs.length := ⟨_, rfl⟩
  obtain ⟨ok, hok⟩ : ∃ f, f = okI l m cs := ⟨_, rfl⟩
  have hbad : ∀ i, i < cs.length → ok i = false → r = false := fun i hi h => by rw [hr]; exact range_all_f hi (by rw [← hok]; exact h)
  have hgood : (∀ i, i < cs.length → ok i = true) → r = true := fun h => by rw [hr]; exact range_all.2 (by rw [← hok]; exact h)
  obtain ⟨vb, hvb⟩ : ∃ f, f = inB := ⟨_, rfl⟩
  have hin := in_len l.length hl0 vb hvb
  obtain ⟨fb, hfb⟩ : ∃ f, f = fitsB := ⟨_, rfl⟩
  have hF : ∀ x ∈ l, ∀ s ∈ m, Pure Tryz.prog 94 [.agg x.c, .agg s.c] (boolD (fb x s)) := fun x hx s hs => by rw [hfb]; exact RFits_pure x s (hl.vals x hx) (hs'.fields s hs) (hs'.vals s hs)
  clear hr
  refine Pure.intro (want := [boolD r]) T_ok follows Tryz.func84 rfl (by kernel_rfl) (rs := [.tmp 6]) rfl (by kernel_rfl) ?_
  generalize hP : Tryz.prog = P at *
  have hT : T.ok P := hP ▸ T_ok
  have hm : P.follows .mixedOrders = true := hP ▸ follows
  unfold Tryz.f84
  dsimp only
  cbv
  refine CodeP.loopc hT hm (X := Nat) (fun k => [(7, .int .i64 (.nat k))]) (fun k => k ≤ cs.length ∧ ∀ i, i < k → ok i = true) (fun k => n - k) 0 ⟨by simp, fun i h => by omega⟩ (Nat.zero_le _) ?_ rfl ?_
  · (cbv; (repeat' (first | exact SnD.refl _ | exact trivial | exact SnD.nat0 | refine And.intro ?_ ?_)))
  intro k ⟨hk, hq⟩
  cbv
  refine SplitP.mk (fun hs => ?_) (fun hs => ?_)
  rotate_left
  · have hkn : cs.length ≤ k := by
      have h5 : decide ((k : Int) < (cs.length : Int)) = false := hs
      have := of_decide_eq_false h5
      omega
    clear hs
    refine .mk (.cons (.eq (.bool ?_)) .nil) rfl
    rw [BE.lit_d, BE.var_d]
    rw [hgood fun i hi => hq i (by omega)]
  have hkn : k < cs.length := by
    have h5 : decide ((k : Int) < (cs.length : Int)) = true := hs
    have := of_decide_eq_true h5
    omega
  clear hs
  have hokk : ok k = (fitAt l m cs k && (List.range k).all (pairAt l m cs k)) := by rw [hok]; rfl
  obtain ⟨s, hsk⟩ : ∃ s, m[k]? = some s := ⟨_, List.getElem?_eq_getElem (by omega)⟩
  refine ElemP.mk (by show (0 : Int) ≤ (k : Int) ∧ (k : Int) < (cs.length : Int); omega) (fun c hck => ?_)
  replace hck : cs[k]? = some c := hck
  cbv
  refine PureP.mk _ (hin _ (by rfl) c) rfl ?_
  cbv
  refine SplitP.mk (fun h4 => ?_) (fun h4 => ?_)
  · replace h4 : vb c ((l.length : Int) - 1) = false := by simpa using (show (!vb c ((l.length : Int) - 1)) = true from h4)
    rw [hvb] at h4
    have h5 := inB_f h4
    refine .mk (.cons (.eq (.bool ?_)) .nil) rfl
    rw [BE.lit_d, BE.var_d]
    rw [hbad k hkn (by rw [hokk, fitAt_no hck (by ((try simp only [ncast] at *); omega))]; rfl)]
  replace h4 : vb c ((l.length : Int) - 1) = true := by simpa using (show (!vb c ((l.length : Int) - 1)) = false from h4)
  rw [hvb] at h4
  have h5 := (inB_t h4).1
  have h6 : c.toNat < l.length := by have := (inB_t h4).2; omega
  clear h4
  refine ElemP.mk (by show (0 : Int) ≤ (k : Int) ∧ (k : Int) < (cs.length : Int); omega) (fun c2 hc2 => ?_)
  replace hc2 : cs[k]? = some c2 := hc2
  rw [hck] at hc2
  simp only [Option.some.injEq] at hc2
  subst hc2
  cbv
  refine ElemP.mk (by show (0 : Int) ≤ c ∧ c < (l.length : Int); ((try simp only [ncast] at *); omega)) (fun x hx => ?_)
  replace hx : l[c.toNat]? = some x := hx
  have hFx := hF x (List.mem_of_getElem? hx) s (List.mem_of_getElem? hsk)
  have hfx : fitAt l m cs k = fb x s := by rw [hfb]; exact fitAt_eq hck h5 h6 hx hsk
  have hpx := personI_eq hx
  have hgk := groupS_eq hsk
  rw [hfx] at hokk
  obtain ⟨fx, hfx2⟩ : ∃ b, b = fb x s := ⟨_, rfl⟩
  rw [← hfx2] at hFx hokk
  clear hfx hfx2
  obtain ⟨xr, xp, xn, xv⟩ := x
  simp only at hpx
  cbv
  refine ElemP.mk (by show (0 : Int) ≤ (k : Int) ∧ (k : Int) < (m.length : Int); omega) (fun s2 hs2 => ?_)
  replace hs2 : m[k]? = some s2 := hs2
  rw [hsk] at hs2
  simp only [Option.some.injEq] at hs2
  subst hs2
  obtain ⟨sg, sr, sn, sf, sm, sv⟩ := s
  simp only at hgk
  cbv
  refine CallP.pure _ hFx rfl ?_
  cbv
  refine SplitP.mk (fun hs => ?_) (fun hs => ?_)
  · replace hs : fx = false := by simpa using (show (!fx) = true from hs)
    refine .mk (.cons (.eq (.bool ?_)) .nil) rfl
    rw [BE.lit_d, BE.var_d]
    rw [hbad k hkn (by rw [hokk, hs]; rfl)]
  replace hs : fx = true := by simpa using (show (!fx) = false from hs)
  rw [hs, Bool.true_and] at hokk
  clear hs hFx
  refine CodeP.loopc hT hm (X := Nat) (fun j => [(8, .int .i64 (.nat j))]) (fun j => j ≤ k ∧ ∀ i, i < j → pairAt l m cs k i = true) (fun j => k - j) 0 ⟨by simp, fun i h => by omega⟩ (Nat.zero_le _) ?_ rfl ?_
  · (cbv; (repeat' (first | exact SnD.refl _ | exact trivial | exact SnD.nat0 | refine And.intro ?_ ?_)))
  intro j ⟨hj, hq2⟩
  cbv
  refine SplitP.mk (fun hs => ?_) (fun hs => ?_)
  rotate_left
  · have hjk : k ≤ j := by have := of_decide_eq_false (show decide ((j : Int) < (k : Int)) = false from hs); omega
    refine BackP.intro (k + 1) ⟨by omega, fun i hi => ?_⟩ (by show n - (k + 1) < n - k; omega) ⟨?_, trivial, rfl⟩
    · rcases Nat.lt_or_ge i k with q | q
      · exact hq i q
      · rw [show i = k by omega, hokk]
        exact range_all.2 fun i hi => hq2 i (by omega)
    · (cbv; (repeat' (first | exact SnD.refl _ | exact trivial | exact SnD.nat0 | refine And.intro ?_ ?_)))
      exact .inc (by omega)
  have hjk : j < k := by have := of_decide_eq_true (show decide ((j : Int) < (k : Int)) = true from hs); omega
  clear hs
  have hbad2 : pairAt l m cs k j = false → r = false := fun h => hbad k hkn (by rw [hokk]; exact range_all_f hjk h)
  refine DrawP.mk (by kernel_rfl) ?_
  cbv
  refine ElemP.mk (by show (0 : Int) ≤ (j : Int) ∧ (j : Int) < (cs.length : Int); omega) (fun a ha => ?_)
  replace ha : cs[j]? = some a := ha
  have hpair : pairAt l m cs k j = (!decide (a = c) && !decide (groupS m j = groupS m k ∧ ¬ personI l a = personI l c)) := by simp only [pairAt, ha, hck]
  cbv
  refine ElemP.mk (by show (0 : Int) ≤ (k : Int) ∧ (k : Int) < (cs.length : Int); omega) (fun c2 hc2 => ?_)
  replace hc2 : cs[k]? = some c2 := hc2
  rw [hck] at hc2
  simp only [Option.some.injEq] at hc2
  subst hc2
  cbv
  refine SplitP.mk (fun h7 => ?_) (fun h7 => ?_) <;> simp only [BE.eql_t, BE.eql_f, IE.var_d] at h7
  · refine .mk (.cons (.eq (.bool ?_)) .nil) rfl
    rw [BE.lit_d, BE.var_d]
    rw [hbad2 (by rw [hpair, decide_eq_true h7]; rfl)]
  rw [decide_eq_false h7, Bool.not_false, Bool.true_and, hgk, hpx] at hpair
  obtain ⟨sj, hsj⟩ : ∃ s, m[j]? = some s := ⟨_, List.getElem?_eq_getElem (by omega)⟩
  have hgj := groupS_eq hsj
  refine ElemP.mk (by show (0 : Int) ≤ (j : Int) ∧ (j : Int) < (m.length : Int); omega) (fun s2 hs2 => ?_)
  replace hs2 : m[j]? = some s2 := hs2
  rw [hsj] at hs2
  simp only [Option.some.injEq] at hs2
  subst hs2
  obtain ⟨tg, tr, tn, tf, tm, tv⟩ := sj
  simp only at hgj
  rw [hgj] at hpair
  cbv
  refine ElemP.mk (by show (0 : Int) ≤ (k : Int) ∧ (k : Int) < (m.length : Int); omega) (fun s2 hs2 => ?_)
  replace hs2 : m[k]? = some s2 := hs2
  rw [hsk] at hs2
  simp only [Option.some.injEq] at hs2
  subst hs2
  cbv
  refine SplitP.mk (fun h8 => ?_) (fun h8 => ?_) <;> simp only [BE.eql_t, BE.eql_f, IE.var_d] at h8
  rotate_left
  · rw [decide_eq_false (fun e => h8 e.1)] at hpair
    refine BackP.intro (j + 1) ⟨by omega, fun i hi => ?_⟩ (by show k - (j + 1) < k - j; omega) ⟨?_, HEnt.refl _, rfl⟩
    · rcases Nat.lt_or_ge i j with q | q
      · exact hq2 i q
      · rw [show i = j by omega, hpair]; rfl
    · (cbv; (repeat' (first | exact SnD.refl _ | exact trivial | exact SnD.nat0 | refine And.intro ?_ ?_)))
      exact .inc (by omega)
  refine ElemP.mk (by show (0 : Int) ≤ (j : Int) ∧ (j : Int) < (cs.length : Int); omega) (fun a2 ha2 => ?_)
  replace ha2 : cs[j]? = some a2 := ha2
  rw [ha] at ha2
  simp only [Option.some.injEq] at ha2
  subst ha2
  cbv
  have haj : 0 ≤ a ∧ a.toNat < l.length := by
    have := hq j (by omega)
    rw [hok] at this
    simp only [okI, Bool.and_eq_true, fitAt, ha, decide_eq_true_eq] at this
    have := this.1.1
    omega
  refine ElemP.mk (by show (0 : Int) ≤ a ∧ a < (l.length : Int); ((try simp only [ncast] at *); omega)) (fun y hy => ?_)
  replace hy : l[a.toNat]? = some y := hy
  have hpy := personI_eq hy
  obtain ⟨yr, yp, yn, yv⟩ := y
  simp only at hpy
  rw [hpy] at hpair
  cbv
  refine ElemP.mk (by show (0 : Int) ≤ (k : Int) ∧ (k : Int) < (cs.length : Int); omega) (fun c2 hc2 => ?_)
  replace hc2 : cs[k]? = some c2 := hc2
  rw [hck] at hc2
  simp only [Option.some.injEq] at hc2
  subst hc2
  cbv
  refine ElemP.mk (by show (0 : Int) ≤ c ∧ c < (l.length : Int); ((try simp only [ncast] at *); omega)) (fun x2 hx2 => ?_)
  replace hx2 : l[c.toNat]? = some x2 := hx2
  rw [hx] at hx2
  simp only [Option.some.injEq] at hx2
  subst hx2
  cbv
  refine SplitP.mk (fun h9 => ?_) (fun h9 => ?_) <;> simp only [BE.neq_t, BE.neq_f, IE.var_d] at h9
  · refine .mk (.cons (.eq (.bool ?_)) .nil) rfl
    rw [BE.lit_d, BE.var_d]
    rw [hbad2 (by rw [hpair, decide_eq_true ⟨h8, h9⟩]; rfl)]
  · rw [decide_eq_false (fun e => e.2 h9)] at hpair
    refine BackP.intro (j + 1) ⟨by omega, fun i hi => ?_⟩ (by show k - (j + 1) < k - j; omega) ⟨?_, HEnt.refl _, rfl⟩
    · rcases Nat.lt_or_ge i j with q | q
      · exact hq2 i q
      · rw [show i = j by omega, hpair]; rfl
    · (cbv; (repeat' (first | exact SnD.refl _ | exact trivial | exact SnD.nat0 | refine And.intro ?_ ?_)))
      exact .inc (by omega)
end Go.Proofs.YtaopkjgldokahaaGreatDoor
namespace Go.Proofs.YtaopkjgldokahaaGreatDoor
open Go.RowKit

/-! The program's Check. -/
set_option maxRecDepth 100000 in
set_option maxHeartbeats 4000000 in
theorem seenOK_pure (s : SeenD) (hf : s.fields.length < 9223372036854775807) (hv : s.values.length < 9223372036854775807) : Pure Tryz.prog 47 [.agg s.c] (boolD (seenB s)) := by
  obtain ⟨r, hr⟩ : ∃ r, r = seenB s := ⟨_, rfl⟩
  rw [← hr]
  obtain ⟨sg, sr, sn, fs, sm, vs⟩ := s
  simp only at hf hv
  simp only [seenB] at hr
  have hV := all_pure vs (some (.var sm)) hv
  obtain ⟨vb, hvb⟩ : ∃ b, b = valsB vs := ⟨_, rfl⟩
  rw [← hvb] at hV hr
  obtain ⟨n, hn⟩ : ∃ n : Nat, n = fs.length := ⟨_, rfl⟩
  refine Pure.intro (want := [boolD r]) T_ok follows Tryz.func47 rfl (by kernel_rfl) (rs := [.tmp 2]) rfl (by kernel_rfl) ?_
  generalize hP : Tryz.prog = P at *
  have hT : T.ok P := hP ▸ T_ok
  have hm : P.follows .mixedOrders = true := hP ▸ follows
  unfold Tryz.f47
  dsimp only
  cbv
  refine SplitP.mk (fun h1 => ?_) (fun h1 => ?_) <;> simp only [BE.lss_t, BE.lss_f, IE.var_d, IE.lit_d] at h1
  · refine .mk (.cons (.eq (.bool ?_)) .nil) rfl
    rw [BE.lit_d, BE.var_d]
    rw [hr, decide_eq_false (by omega)]; rfl
  refine SplitP.mk (fun h2 => ?_) (fun h2 => ?_) <;> simp only [BE.lss_t, BE.lss_f, IE.var_d, IE.lit_d] at h2
  · refine .mk (.cons (.eq (.bool ?_)) .nil) rfl
    rw [BE.lit_d, BE.var_d]
    rw [hr, decide_eq_false (by omega)]; rfl
  refine SplitP.mk (fun h3 => ?_) (fun h3 => ?_)
  · have h4 : ((fs.length : Int) != (vs.length : Int)) = true := h3
    refine .mk (.cons (.eq (.bool ?_)) .nil) rfl
    rw [BE.lit_d, BE.var_d]
    rw [hr, decide_eq_false (fun e => by rw [e.2.2] at h4; simp at h4)]; rfl
  have h3 : fs.length = vs.length := by
    have h4 : ((fs.length : Int) != (vs.length : Int)) = false := h3
    simp at h4
    omega
  rw [decide_eq_true ⟨h1, h2, h3⟩, Bool.true_and] at hr
  refine CallP.pure _ hV rfl ?_
  cbv
  refine SplitP.mk (fun h5 => ?_) (fun h5 => ?_)
  · replace h5 : vb = false := by simpa using (show (!vb) = true from h5)
    refine .mk (.cons (.eq (.bool ?_)) .nil) rfl
    rw [BE.lit_d, BE.var_d]
    rw [hr, h5, Bool.and_false]
  replace h5 : vb = true := by simpa using (show (!vb) = false from h5)
  rw [h5, Bool.and_true] at hr
  refine CodeP.loopc hT hm (X := Nat × Int) (fun x => [(32, .int .i64 (.nat x.1)), (3, i64 x.2)]) (fun x => x.1 ≤ fs.length ∧ r = risB x.2 (fs.drop x.1)) (fun x => n - x.1) (0, -1) ⟨by simp, hr⟩ (by simp) ?_ rfl ?_
  · (cbv; (repeat' (first | exact SnD.refl _ | exact trivial | exact SnD.nat0 | refine And.intro ?_ ?_)))
    exact .eq (.int rfl)
  intro (k, last) ⟨hk, hq⟩
  simp only at hk hq
  cbv
  refine SplitP.mk (fun hs => ?_) (fun hs => ?_)
  · have hkn : k < fs.length := by
      have h5 : decide ((k : Int) < (fs.length : Int)) = true := hs
      have := of_decide_eq_true h5
      omega
    clear hs
    refine ElemP.mk (by show (0 : Int) ≤ (k : Int) ∧ (k : Int) < (fs.length : Int); omega) (fun f hf1 => ?_)
    replace hf1 : fs[k]? = some f := hf1
    rw [drop_cons hf1] at hq
    simp only [risB] at hq
    cbv
    refine SplitP.mk (fun h6 => ?_) (fun h6 => ?_) <;> simp only [BE.leq_t, BE.leq_f, IE.var_d, IE.lit_d] at h6
    · refine .mk (.cons (.eq (.bool ?_)) .nil) rfl
      rw [BE.lit_d, BE.var_d]
      rw [hq, decide_eq_false (by omega)]; rfl
    refine SplitP.mk (fun h7 => ?_) (fun h7 => ?_) <;> simp only [BE.geq_t, BE.geq_f, IE.var_d, IE.lit_d] at h7
    · refine .mk (.cons (.eq (.bool ?_)) .nil) rfl
      rw [BE.lit_d, BE.var_d]
      rw [hq, decide_eq_false (by omega)]; rfl
    refine BackP.intro (k + 1, f) ⟨by simp only; omega, by simp only; rw [hq, decide_eq_true (by omega)]; rfl⟩ (by show n - (k + 1) < n - k; omega) ⟨?_, HEnt.refl _, rfl⟩
    (cbv; (repeat' (first | exact SnD.refl _ | exact trivial | exact SnD.nat0 | refine And.intro ?_ ?_)))
    exact .inc (by omega)
  · have hkn : fs.length ≤ k := by
      have h5 : decide ((k : Int) < (fs.length : Int)) = false := hs
      have := of_decide_eq_false h5
      omega
    clear hs
    refine .mk (.cons (.eq (.bool ?_)) .nil) rfl
    rw [BE.lit_d, BE.var_d]
    rw [hq, List.drop_of_length_le (by omega)]; rfl
set_option maxRecDepth 100000 in
set_option maxHeartbeats 4000000 in
theorem Check_pure (l : List IssuedD) (m : List SeenD) (na nb : Option BE) (hl : BigI l) (hs' : BigS m) : Pure Tryz.prog 27 [.slm 3 na IssuedD.c l, .slm 4 nb SeenD.c m] (i64 (if checkB l m then 0 else 300)) := by
  have hI : ∀ x ∈ l, ∀ nb, Pure Tryz.prog 46 [.slm 1 nb intC x.values] (boolD (valsB x.values)) := fun x hx nb => all_pure x.values nb (hl.vals x hx)
  have hS : ∀ x ∈ m, Pure Tryz.prog 47 [.agg x.c] (boolD (seenB x)) := fun x hx => seenOK_pure x (hs'.fields x hx) (hs'.vals x hx)
  have hl0 := hl.len
  have hm0 := hs'.len
  obtain ⟨ok, hok⟩ : ∃ b, b = checkB l m := ⟨_, rfl⟩
  rw [← hok]
  simp only [checkB] at hok
  obtain ⟨fi, hfi⟩ : ∃ f, f = issB := ⟨_, rfl⟩
  obtain ⟨fs, hfs⟩ : ∃ f, f = seenB := ⟨_, rfl⟩
  obtain ⟨fv, hfv⟩ : ∃ f, f = valsB := ⟨_, rfl⟩
  rw [← hfi] at hok
  rw [← hfv] at hI
  rw [← hfs] at hS hok
  have hfx : ∀ (a b : Int) (c : Bool) (l : List Int), fi ⟨a, b, c, l⟩ = (decide (0 ≤ a ∧ 0 ≤ b ∧ b < 4096 ∧ l.length ≤ 12) && fv l) := fun a b c l => by rw [hfi, hfv]; rfl
  clear hfv hfi
  obtain ⟨r, hr⟩ : ∃ r : Int, r = if ok then 0 else 300 := ⟨_, rfl⟩
  rw [← hr]
  have bad : ok = false → (300 : Int) = r := fun h => by rw [hr, h]; rfl
  obtain ⟨n, hn⟩ : ∃ n : Nat, n = l.length := ⟨_, rfl⟩
  obtain ⟨n2, hn2⟩ : ∃ n : Nat, n = m.length := ⟨_, rfl⟩
  refine Pure.intro (want := [i64 r]) T_ok follows Tryz.func27 rfl (by kernel_rfl) (rs := [.tmp 4]) rfl (by kernel_rfl) ?_
  generalize hP : Tryz.prog = P at *
  have hT : T.ok P := hP ▸ T_ok
  have hm : P.follows .mixedOrders = true := hP ▸ follows
  unfold Tryz.f27
  dsimp only
  cbv
  refine SplitP.mk (fun h1 => ?_) (fun h1 => ?_)
  · have := of_decide_eq_true (show decide ((l.length : Int) > 64) = true from h1)
    refine .mk (.cons (.eq (.int ?_)) .nil) rfl
    rw [IE.lit_d, IE.var_d]
    exact bad (by rw [hok, decide_eq_false (by omega)]; rfl)
  have h1 : l.length ≤ 64 := by have := of_decide_eq_false (show decide ((l.length : Int) > 64) = false from h1); omega
  refine SplitP.mk (fun h2 => ?_) (fun h2 => ?_)
  · have := of_decide_eq_true (show decide ((m.length : Int) > 16) = true from h2)
    refine .mk (.cons (.eq (.int ?_)) .nil) rfl
    rw [IE.lit_d, IE.var_d]
    exact bad (by rw [hok, decide_eq_false (by omega)]; rfl)
  have h2 : m.length ≤ 16 := by have := of_decide_eq_false (show decide ((m.length : Int) > 16) = false from h2); omega
  rw [decide_eq_true ⟨h1, h2⟩, Bool.true_and] at hok
  refine CodeP.loopc hT hm (X := Nat) (fun k => [(19, .int .i64 (.nat k))]) (fun k => k ≤ l.length ∧ ok = ((l.drop k).all fi && m.all fs)) (fun k => n - k) 0 ⟨by simp, hok⟩ (Nat.zero_le _) ?_ rfl ?_
  · (cbv; (repeat' (first | exact SnD.refl _ | exact trivial | exact SnD.nat0 | refine And.intro ?_ ?_)))
  intro k ⟨hk, hq⟩
  cbv
  refine SplitP.mk (fun hs => ?_) (fun hs => ?_)
  · have hkn : k < l.length := by
      have h5 : decide ((k : Int) < (l.length : Int)) = true := hs
      have := of_decide_eq_true h5
      omega
    clear hs
    refine ElemP.mk (by show (0 : Int) ≤ (k : Int) ∧ (k : Int) < (l.length : Int); omega) (fun x hx => ?_)
    replace hx : l[k]? = some x := hx
    have hIx := hI x (List.mem_of_getElem? hx)
    rw [drop_cons hx] at hq
    simp only [List.all_cons] at hq
    obtain ⟨xr, xp, xn, xv⟩ := x
    rw [hfx] at hq
    simp only at hIx
    have bad2 : ¬ (0 ≤ xr ∧ 0 ≤ xp ∧ xp < 4096 ∧ xv.length ≤ 12) → (300 : Int) = r := fun h => bad (by rw [hq, decide_eq_false h]; rfl)
    cbv
    refine SplitP.mk (fun h3 => ?_) (fun h3 => ?_) <;> simp only [BE.lss_t, BE.lss_f, IE.var_d, IE.lit_d] at h3
    · refine .mk (.cons (.eq (.int ?_)) .nil) rfl
      rw [IE.lit_d, IE.var_d]
      exact bad2 (by omega)
    refine SplitP.mk (fun h4 => ?_) (fun h4 => ?_) <;> simp only [BE.lss_t, BE.lss_f, IE.var_d, IE.lit_d] at h4
    · refine .mk (.cons (.eq (.int ?_)) .nil) rfl
      rw [IE.lit_d, IE.var_d]
      exact bad2 (by omega)
    refine SplitP.mk (fun h5 => ?_) (fun h5 => ?_) <;> simp only [BE.geq_t, BE.geq_f, IE.var_d, IE.lit_d] at h5
    · refine .mk (.cons (.eq (.int ?_)) .nil) rfl
      rw [IE.lit_d, IE.var_d]
      exact bad2 (by omega)
    refine SplitP.mk (fun h6 => ?_) (fun h6 => ?_)
    · have := of_decide_eq_true (show decide ((xv.length : Int) > 12) = true from h6)
      refine .mk (.cons (.eq (.int ?_)) .nil) rfl
      rw [IE.lit_d, IE.var_d]
      exact bad2 (by omega)
    have h6 : xv.length ≤ 12 := by have := of_decide_eq_false (show decide ((xv.length : Int) > 12) = false from h6); omega
    rw [decide_eq_true ⟨by omega, by omega, by omega, h6⟩, Bool.true_and] at hq
    clear bad2
    have hIx := hIx (some (.var xn))
    obtain ⟨fx, hfx2⟩ : ∃ b, b = fv xv := ⟨_, rfl⟩
    rw [← hfx2] at hIx hq
    clear hfx2
    refine CallP.pure _ hIx rfl ?_
    cbv
    refine SplitP.mk (fun hs => ?_) (fun hs => ?_)
    · replace hs : fx = false := by simpa using (show (!fx) = true from hs)
      refine .mk (.cons (.eq (.int ?_)) .nil) rfl
      rw [IE.lit_d, IE.var_d]
      exact bad (by rw [hq, hs]; rfl)
    · replace hs : fx = true := by simpa using (show (!fx) = false from hs)
      refine BackP.intro (k + 1) ⟨by omega, by rw [hq, hs]; rfl⟩ (by show n - (k + 1) < n - k; omega) ⟨?_, trivial, rfl⟩
      (cbv; (repeat' (first | exact SnD.refl _ | exact trivial | exact SnD.nat0 | refine And.intro ?_ ?_)))
      exact .inc (by omega)
  have hkn : l.length ≤ k := by
    have h5 : decide ((k : Int) < (l.length : Int)) = false := hs
    have := of_decide_eq_false h5
    omega
  clear hs
  have hr2 : ok = m.all fs := by rw [hq, List.drop_of_length_le (by omega)]; rfl
  clear hq hok hkn hk
  refine CodeP.loopc hT hm (X := Nat) (fun k => [(51, .int .i64 (.nat k))]) (fun k => k ≤ m.length ∧ ok = (m.drop k).all fs) (fun k => n2 - k) 0 ⟨by simp, hr2⟩ (Nat.zero_le _) ?_ rfl ?_
  · (cbv; (repeat' (first | exact SnD.refl _ | exact trivial | exact SnD.nat0 | refine And.intro ?_ ?_)))
  intro j ⟨hj, hq⟩
  cbv
  refine SplitP.mk (fun hs => ?_) (fun hs => ?_)
  · have hkn : j < m.length := by
      have h5 : decide ((j : Int) < (m.length : Int)) = true := hs
      have := of_decide_eq_true h5
      omega
    clear hs
    refine ElemP.mk (by show (0 : Int) ≤ (j : Int) ∧ (j : Int) < (m.length : Int); omega) (fun x hx => ?_)
    replace hx : m[j]? = some x := hx
    have hSx := hS x (List.mem_of_getElem? hx)
    rw [drop_cons hx] at hq
    simp only [List.all_cons] at hq
    obtain ⟨fx, hfx⟩ : ∃ b, b = fs x := ⟨_, rfl⟩
    rw [← hfx] at hSx hq
    clear hfx
    obtain ⟨sg, sr, sn, sf, sm, sv⟩ := x
    cbv
    refine CallP.pure _ hSx rfl ?_
    cbv
    refine SplitP.mk (fun hs => ?_) (fun hs => ?_)
    · replace hs : fx = false := by simpa using (show (!fx) = true from hs)
      refine .mk (.cons (.eq (.int ?_)) .nil) rfl
      rw [IE.lit_d, IE.var_d]
      exact bad (by rw [hq, hs]; rfl)
    · replace hs : fx = true := by simpa using (show (!fx) = false from hs)
      refine BackP.intro (j + 1) ⟨by omega, by rw [hq, hs]; rfl⟩ (by show n2 - (j + 1) < n2 - j; omega) ⟨?_, trivial, rfl⟩
      (cbv; (repeat' (first | exact SnD.refl _ | exact trivial | exact SnD.nat0 | refine And.intro ?_ ?_)))
      exact .inc (by omega)
  · have hkn : m.length ≤ j := by
      have h5 : decide ((j : Int) < (m.length : Int)) = false := hs
      have := of_decide_eq_false h5
      omega
    clear hs
    have : ok = true := by rw [hq, List.drop_of_length_le (by omega)]; rfl
    refine .mk (.cons (.eq (.int ?_)) .nil) rfl
    rw [IE.lit_d, IE.var_d]
    rw [hr, this]; rfl
end Go.Proofs.YtaopkjgldokahaaGreatDoor
namespace Go.Proofs.YtaopkjgldokahaaGreatDoor
open Go.RowKit

/-! Explains, of the program and of the reference. -/
theorem mp_start {H H' : List Bk} {S : Int → Bool} (hS : ∀ x, S x = false) : BkEq H H' (.mp .i64 (.lits [])) (.mp .i64 (.setb S (.nat 0))) := by
  refine .mp rfl fun x => ?_
  simp only [ME.den, findE, hS, Bool.false_eq_true, if_false]
  exact .none
theorem mp_same {H H' : List Bk} {S S' : Int → Bool} {n n' : IE} (hn : n.den = n'.den) (hS : ∀ x, S x = S' x) : BkEq H H' (.mp .i64 (.setb S n)) (.mp .i64 (.setb S' n')) := by
  refine .mp hn fun x => ?_
  simp only [ME.den, hS]
  split
  · exact .some (.refl _)
  · exact .none
theorem fi_start {H H' : List Bk} {k : IntKind} {F : Int → Option Int} (hF : ∀ x, F x = none) : BkEq H H' (.mp .i64 (.lits [])) (.mp .i64 (.fi k F (.nat 0))) := by
  refine .mp rfl fun x => ?_
  simp only [ME.den, findE, hF]
  exact .none
theorem fi_same {H H' : List Bk} {k : IntKind} {F F' : Int → Option Int} {n n' : IE} (hn : n.den = n'.den) (hF : ∀ x, F x = F' x) : BkEq H H' (.mp .i64 (.fi k F n)) (.mp .i64 (.fi k F' n')) := by
  refine .mp hn fun x => ?_
  simp only [ME.den, hF]
  split
  · exact .some (.refl _)
  · exact .none
theorem ok_same {I : List IssuedD} {S : List SeenD} {cs : List Int} {k : Nat} (h : ∀ i, i < k → okI I S cs i = true) {i j : Nat} (hi : i < k) (hj : j < k) {a b : Int} (ha : cs[i]? = some a) (hb : cs[j]? = some b) (hg : groupS S i = groupS S j) : personI I a = personI I b := by
  have key : ∀ {i j : Nat} {a b : Int}, i < j → j < k → cs[i]? = some a → cs[j]? = some b → groupS S i = groupS S j → personI I a = personI I b := fun {i j a b} hij hj ha hb hg => by
    have := h j hj
    simp only [okI, Bool.and_eq_true] at this
    have := range_all.1 this.2 i hij
    simp only [pairAt, ha, hb, Bool.and_eq_true, Bool.not_eq_true', decide_eq_false_iff_not] at this
    exact Classical.byContradiction fun q => this.2 ⟨hg, q⟩
  rcases Nat.lt_trichotomy i j with q | q | q
  · exact key q hj ha hb hg
  · subst q; rw [ha] at hb; cases hb; rfl
  · exact (key q hi hb ha hg.symm).symm
end Go.Proofs.YtaopkjgldokahaaGreatDoor
namespace Go.Proofs.YtaopkjgldokahaaGreatDoor
open Go.RowKit

/-! The reference: first, People. -/
def findN {α : Type} (F : Nat → Option α) : Nat → Nat → Option α
  | 0, _ => none
  | r + 1, k => match F k with | some y => some y | none => findN F r (k + 1)
def skipB (I : List IssuedD) (S : List SeenD) (g p : Int) (n c : Nat) : Bool := decide (0 ≤ p ∧ groupS S n = g ∧ ¬ personI I (c : Int) = p)
def tryF (I : List IssuedD) (S : List SeenD) (g p : Int) (rec_ : List Int → Option (List Int)) (cs : List Int) (c : Nat) : Option (List Int) :=
  if skipB I S g p cs.length c then none else if explB I S (cs ++ [(c : Int)]) then rec_ (cs ++ [(c : Int)]) else none
def firstR (I : List IssuedD) (S : List SeenD) (g p : Int) : Nat → List Int → Option (List Int)
  | 0, cs => some cs
  | f + 1, cs => findN (tryF I S g p (firstR I S g p f) cs) I.length 0
def optD (o : Option (List Int)) : D := .slm 1 (some (.var o.isNone)) intC (o.getD [])
theorem int_cell (l : List Int) : ∀ e ∈ (RE.map intC l).den, e.all D.cellB = true := fun e he => by
  simp only [RE.den, List.mem_map] at he
  obtain ⟨a, _, rfl⟩ := he
  rfl
theorem app_first (cs : List Int) (h : cs.length ≤ 100000) : (IE.len cs).den = ((RE.map intC cs).den.length : Int) ∧ (IE.lit 0).den = ((RE.lits []).den.length : Int) ∧ (∀ e ∈ (RE.map intC cs).den, e.all D.cellB = true) ∧ (∀ e ∈ (RE.lits []).den, e.all D.cellB = true) ∧ (IE.lit 0).den + (IE.len cs).den ≤ 9223372036854775807 ∧ ((IE.lit 0).den + (IE.len cs).den) * ((8 : Nat) : Int) ≤ 140737488355328 := by
  refine ⟨by simp [IE.den, RE.den], rfl, int_cell cs, fun e he => by simp [RE.den] at he, by simp only [IE.den]; omega, by simp only [IE.den]; omega⟩
theorem app_second (cs : List Int) (z : Int) (h : cs.length ≤ 100000) : (IE.lit 1).den = ((RE.lits [intC z]).den.length : Int) ∧ (IE.len cs).den = (((RE.lits []).apps (RE.map intC cs)).den.length : Int) ∧ (∀ e ∈ (RE.lits [intC z]).den, e.all D.cellB = true) ∧ (∀ e ∈ ((RE.lits []).apps (RE.map intC cs)).den, e.all D.cellB = true) ∧ (IE.len cs).den + (IE.lit 1).den ≤ 9223372036854775807 ∧ ((IE.len cs).den + (IE.lit 1).den) * ((8 : Nat) : Int) ≤ 140737488355328 := by
  refine ⟨rfl, by simp [IE.den, RE.den], fun e he => ?_, fun e he => ?_, by simp only [IE.den]; omega, by simp only [IE.den]; omega⟩
  · simp [RE.den] at he
    subst he
    rfl
  · simp only [RE.den, List.nil_append] at he
    exact int_cell cs e he
set_option maxRecDepth 100000 in
set_option maxHeartbeats 4000000 in
theorem first_pure (l : List IssuedD) (m : List SeenD) (na nb : Option BE) (g p : Int) (hl : BigI l) (hs' : BigS m) (hm1 : m.length ≤ 100) : ∀ (f : Nat) (cs : List Int), cs.length + f = m.length → Pure Tryz.prog 74 [.slm 3 na IssuedD.c l, .slm 4 nb SeenD.c m, .slm 1 (some (.lit false)) intC cs, i64 g, i64 p] (optD (firstR l m g p f cs))
  | 0, cs, hcf => by
    unfold optD
    simp only [firstR, Option.isNone_some, Option.getD_some]
    refine Pure.intro (want := [.slm 1 (some (.var false)) intC cs]) T_ok follows Tryz.func74 rfl (by kernel_rfl) (rs := [.tmp 10]) rfl (by kernel_rfl) ?_
    generalize hP : Tryz.prog = P
    have hT : T.ok P := hP ▸ T_ok
    have hm : P.follows .mixedOrders = true := hP ▸ follows
    unfold Tryz.f74
    dsimp only
    cbv
    refine SplitP.mk (fun hs => ?_) (fun hs => ?_)
    · exact .mk (.cons (.eq (.slmb rfl rfl)) .nil) rfl
    · exfalso
      have h4 : ((cs.length : Int) == (m.length : Int)) = false := hs
      rw [show cs.length = m.length by omega] at h4
      simp at h4
  | f + 1, cs, hcf => by
    have ih := first_pure l m na nb g p hl hs' hm1 f
    have hE := fun (cs : List Int) (h : cs.length ≤ m.length) => explains_pure l m cs na nb (some (.lit false)) hl hs' (by omega) h
    have hl0 := hl.len
    obtain ⟨rc, hrc⟩ : ∃ r, r = firstR l m g p f := ⟨_, rfl⟩
    obtain ⟨eb, heb⟩ : ∃ r, r = explB l m := ⟨_, rfl⟩
    obtain ⟨res, hres⟩ : ∃ r, r = firstR l m g p (f + 1) cs := ⟨_, rfl⟩
    rw [← hres]
    simp only [firstR] at hres
    rw [← hrc] at ih hres
    obtain ⟨rcN, hrcN⟩ : ∃ f : List Int → Bool, f = fun cs => (rc cs).isNone := ⟨_, rfl⟩
    obtain ⟨rcL, hrcL⟩ : ∃ f : List Int → List Int, f = fun cs => (rc cs).getD [] := ⟨_, rfl⟩
    have ih : ∀ cs, cs.length + f = m.length → Pure Tryz.prog 74 [.slm 3 na IssuedD.c l, .slm 4 nb SeenD.c m, .slm 1 (some (.lit false)) intC cs, i64 g, i64 p] (.slm 1 (some (.var (rcN cs))) intC (rcL cs)) := fun cs h => by rw [hrcN, hrcL]; exact ih cs h
    obtain ⟨F, hF⟩ : ∃ F, F = tryF l m g p rc cs := ⟨_, rfl⟩
    rw [← hF] at hres
    have hF' : ∀ z : Int, 0 ≤ z → F z.toNat = if 0 ≤ p ∧ groupS m cs.length = g ∧ ¬ personI l z = p then none else if eb (cs ++ [z]) then rc (cs ++ [z]) else none := fun z hz => by
      rw [hF, heb]
      unfold tryF skipB
      rw [show ((z.toNat : Nat) : Int) = z by omega]
      simp only [decide_eq_true_eq]
    clear hF hrc
    simp only [← heb] at hE
    clear heb
    obtain ⟨n, hn⟩ : ∃ n : Nat, n = l.length := ⟨_, rfl⟩
    rw [← hn] at hres
    unfold optD
    obtain ⟨ro, hro⟩ : ∃ b, b = res.isNone := ⟨_, rfl⟩
    obtain ⟨rl, hrl⟩ : ∃ b, b = res.getD [] := ⟨_, rfl⟩
    rw [← hro, ← hrl]
    obtain ⟨s, hsk⟩ : ∃ s, m[cs.length]? = some s := ⟨_, List.getElem?_eq_getElem (by omega)⟩
    have hgk := groupS_eq hsk
    refine Pure.intro (want := [.slm 1 (some (.var ro)) intC rl]) T_ok follows Tryz.func74 rfl (by kernel_rfl) (rs := [.tmp 10]) rfl (by kernel_rfl) ?_
    generalize hP : Tryz.prog = P at *
    have hT : T.ok P := hP ▸ T_ok
    have hm : P.follows .mixedOrders = true := hP ▸ follows
    unfold Tryz.f74
    dsimp only
    cbv
    refine SplitP.mk (fun hs => ?_) (fun hs => ?_)
    · exfalso
      have h4 : ((cs.length : Int) == (m.length : Int)) = true := hs
      simp at h4
      omega
    clear hs
    refine CodeP.loopc hT hm (X := Int) (fun z => [(12, i64 z)]) (fun z => 0 ≤ z ∧ z ≤ n ∧ res = findN F (n - z.toNat) z.toNat) (fun z => n - z.toNat) 0 ⟨by omega, by omega, hres⟩ (Nat.zero_le _) ?_ rfl ?_
    · (cbv; (repeat' (first | exact SnD.refl _ | exact trivial | exact SnD.nat0 | refine And.intro ?_ ?_)))
      exact .eq (.int rfl)
    intro z ⟨hz0, hzn, hq⟩
    have next : z < n → F z.toNat = none → 0 ≤ z + 1 ∧ z + 1 ≤ n ∧ res = findN F (n - (z + 1).toNat) (z + 1).toNat := fun h1 h2 => by
      refine ⟨by omega, by omega, ?_⟩
      rw [show n - z.toNat = (n - (z + 1).toNat) + 1 by omega] at hq
      simp only [findN, h2] at hq
      rw [hq, show z.toNat + 1 = (z + 1).toNat by omega]
    have found : z < n → ∀ y, F z.toNat = some y → res = some y := fun h1 y h2 => by
      rw [show n - z.toNat = (n - (z + 1).toNat) + 1 by omega] at hq
      simp only [findN, h2] at hq
      exact hq
    cbv
    refine SplitP.mk (fun hs => ?_) (fun hs => ?_)
    rotate_left
    · have h4 := of_decide_eq_false (show decide (z < (l.length : Int)) = false from hs)
      have : res = none := by rw [hq, show n - z.toNat = 0 by omega]; rfl
      refine .mk (.cons (.eq (.nilv ?_ ?_)) .nil) rfl
      · rw [hrl, this]; rfl
      · rw [BE.var_d, hro, this]; rfl
    have hzl : z < n := by have := of_decide_eq_true (show decide (z < (l.length : Int)) = true from hs); omega
    clear hs
    have hFz := hF' z hz0
    obtain ⟨x, hx⟩ : ∃ x, l[z.toNat]? = some x := ⟨_, List.getElem?_eq_getElem (by omega)⟩
    have hpx := personI_eq hx
    rw [hgk, hpx] at hFz
    clear hF' hq
    obtain ⟨xr, xp, xn, xv⟩ := x
    obtain ⟨sg, sr, sn, sf, sm, sv⟩ := s
    simp only at hFz
    clear hgk hpx
    have skip : (0 ≤ p ∧ sg = g ∧ ¬ xp = p) → F z.toNat = none := fun h => by rw [hFz, if_pos h]
    have keepF : ¬ (0 ≤ p ∧ sg = g ∧ ¬ xp = p) → F z.toNat = if eb (cs ++ [z]) then rc (cs ++ [z]) else none := fun h => by rw [hFz, if_neg h]
    clear hFz
    refine SplitP.mk (fun h1 => ?_) (fun h1 => ?_) <;> simp only [BE.geq_t, BE.geq_f, IE.var_d, IE.lit_d] at h1
    · refine ElemP.mk (by show (0 : Int) ≤ (cs.length : Int) ∧ (cs.length : Int) < (m.length : Int); omega) (fun s2 hs2 => ?_)
      replace hs2 : m[cs.length]? = some s2 := hs2
      rw [hsk] at hs2
      simp only [Option.some.injEq] at hs2
      subst hs2
      cbv
      refine SplitP.mk (fun h2 => ?_) (fun h2 => ?_) <;> simp only [BE.eql_t, BE.eql_f, IE.var_d] at h2
      · refine ElemP.mk (by show (0 : Int) ≤ z ∧ z < (l.length : Int); ((try simp only [ncast] at *); omega)) (fun x2 hx2 => ?_)
        replace hx2 : l[z.toNat]? = some x2 := hx2
        rw [hx] at hx2
        simp only [Option.some.injEq] at hx2
        subst hx2
        cbv
        refine SplitP.mk (fun h3 => ?_) (fun h3 => ?_) <;> simp only [BE.neq_t, BE.neq_f, IE.var_d] at h3
        · have hk := skip ⟨by omega, h2, h3⟩
          refine BackP.intro (z + 1) (next hzl hk) (by show n - (z + 1).toNat < n - z.toNat; ((try simp only [ncast] at *); omega)) ⟨?_, HEnt.refl _, rfl⟩
          (cbv; (repeat' (first | exact SnD.refl _ | exact trivial | exact SnD.nat0 | refine And.intro ?_ ?_)))
          exact .eq (.int (by show binDen .add .i64 z 1 = z + 1; exact add64 (by ((try simp only [ncast] at *); omega)) (by ((try simp only [ncast] at *); omega))))
        · have hk := keepF (fun h => h.2.2 h3)
          clear skip keepF
          cbv
          refine ReqP.mk (app_first cs (by omega)) (fun _ => ?_)
          refine ReqP.mk (app_second cs z (by omega)) (fun _ => ?_)
          refine CallP.lend [.slm 3 na IssuedD.c l, .slm 4 nb SeenD.c m, .slm 1 (some (.lit false)) intC (cs ++ [z])] _ (hE (cs ++ [z]) (by simp; omega)) (.cons (.eq (.refl _)) (.cons (.eq (.refl _)) (.cons (.slm rfl (.inl ⟨_, _, rfl, by simp [RE.den]⟩) rfl (by simp [IE.den]) (fun e he => by cases he; rfl)) .nil))) rfl rfl ?_
          cbv
          refine SplitP.mk (fun h4 => ?_) (fun h4 => ?_)
          · replace h4 : eb (cs ++ [z]) = false := by simpa using (show (!eb (cs ++ [z])) = true from h4)
            have hk2 : F z.toNat = none := by rw [hk, if_neg (by rw [h4]; exact Bool.false_ne_true)]
            refine BackP.intro (z + 1) (next hzl hk2) (by show n - (z + 1).toNat < n - z.toNat; ((try simp only [ncast] at *); omega)) ⟨?_, trivial, rfl⟩
            (cbv; (repeat' (first | exact SnD.refl _ | exact trivial | exact SnD.nat0 | refine And.intro ?_ ?_)))
            exact .eq (.int (by show binDen .add .i64 z 1 = z + 1; exact add64 (by ((try simp only [ncast] at *); omega)) (by ((try simp only [ncast] at *); omega))))
          replace h4 : eb (cs ++ [z]) = true := by simpa using (show (!eb (cs ++ [z])) = false from h4)
          rw [if_pos h4] at hk
          refine CallP.pre [.slm 3 na IssuedD.c l, .slm 4 nb SeenD.c m, .slm 1 (some (.lit false)) intC (cs ++ [z]), i64 g, i64 p] [.dead] (.cons (.eq (.refl _)) (.cons (.eq (.refl _)) (.cons (.slm rfl (.inl ⟨_, _, rfl, by simp [RE.den]⟩) rfl (by simp [IE.den]) (fun e he => by cases he; rfl)) (.cons (.eq (.refl _)) (.cons (.eq (.refl _)) .nil))))) ⟨.dead _, trivial⟩ rfl rfl ?_
          refine CallP.pure _ (ih (cs ++ [z]) (by simp; omega)) rfl ?_
          have hN : rcN (cs ++ [z]) = (rc (cs ++ [z])).isNone := by rw [hrcN]
          have hL : rcL (cs ++ [z]) = (rc (cs ++ [z])).getD [] := by rw [hrcL]
          obtain ⟨oN, hoN⟩ : ∃ b, b = rcN (cs ++ [z]) := ⟨_, rfl⟩
          obtain ⟨oL, hoL⟩ : ∃ b, b = rcL (cs ++ [z]) := ⟨_, rfl⟩
          rw [← hoN] at hN ⊢
          rw [← hoL] at hL ⊢
          clear hoN hoL
          cbv
          refine SplitP.mk (fun h5 => ?_) (fun h5 => ?_)
          · replace h5 : oN = false := by simpa using (show (!oN) = true from h5)
            obtain ⟨y, hy⟩ : ∃ y, rc (cs ++ [z]) = some y := by
              rw [h5] at hN
              cases hr : rc (cs ++ [z]) with
              | none => rw [hr] at hN; cases hN
              | some y => exact ⟨y, rfl⟩
            rw [hy] at hk hL
            have := found hzl y hk
            refine .mk (.cons (.eq (.slmb ?_ ?_)) .nil) rfl
            · rw [BE.var_d, BE.var_d, h5, hro, this]; rfl
            · rw [hL, hrl, this]
          · replace h5 : oN = true := by simpa using (show (!oN) = false from h5)
            have hk2 : F z.toNat = none := by
              rw [hk]
              rw [h5] at hN
              cases hr : rc (cs ++ [z]) with
              | none => rfl
              | some y => rw [hr] at hN; cases hN
            refine BackP.intro (z + 1) (next hzl hk2) (by show n - (z + 1).toNat < n - z.toNat; ((try simp only [ncast] at *); omega)) ⟨?_, trivial, rfl⟩
            (cbv; (repeat' (first | exact SnD.refl _ | exact trivial | exact SnD.nat0 | refine And.intro ?_ ?_)))
            exact .eq (.int (by show binDen .add .i64 z 1 = z + 1; exact add64 (by ((try simp only [ncast] at *); omega)) (by ((try simp only [ncast] at *); omega))))
      · have hk := keepF (fun h => h2 h.2.1)
        clear skip keepF
        cbv
        refine ReqP.mk (app_first cs (by omega)) (fun _ => ?_)
        refine ReqP.mk (app_second cs z (by omega)) (fun _ => ?_)
        refine CallP.lend [.slm 3 na IssuedD.c l, .slm 4 nb SeenD.c m, .slm 1 (some (.lit false)) intC (cs ++ [z])] _ (hE (cs ++ [z]) (by simp; omega)) (.cons (.eq (.refl _)) (.cons (.eq (.refl _)) (.cons (.slm rfl (.inl ⟨_, _, rfl, by simp [RE.den]⟩) rfl (by simp [IE.den]) (fun e he => by cases he; rfl)) .nil))) rfl rfl ?_
        cbv
        refine SplitP.mk (fun h4 => ?_) (fun h4 => ?_)
        · replace h4 : eb (cs ++ [z]) = false := by simpa using (show (!eb (cs ++ [z])) = true from h4)
          have hk2 : F z.toNat = none := by rw [hk, if_neg (by rw [h4]; exact Bool.false_ne_true)]
          refine BackP.intro (z + 1) (next hzl hk2) (by show n - (z + 1).toNat < n - z.toNat; ((try simp only [ncast] at *); omega)) ⟨?_, trivial, rfl⟩
          (cbv; (repeat' (first | exact SnD.refl _ | exact trivial | exact SnD.nat0 | refine And.intro ?_ ?_)))
          exact .eq (.int (by show binDen .add .i64 z 1 = z + 1; exact add64 (by ((try simp only [ncast] at *); omega)) (by ((try simp only [ncast] at *); omega))))
        replace h4 : eb (cs ++ [z]) = true := by simpa using (show (!eb (cs ++ [z])) = false from h4)
        rw [if_pos h4] at hk
        refine CallP.pre [.slm 3 na IssuedD.c l, .slm 4 nb SeenD.c m, .slm 1 (some (.lit false)) intC (cs ++ [z]), i64 g, i64 p] [.dead] (.cons (.eq (.refl _)) (.cons (.eq (.refl _)) (.cons (.slm rfl (.inl ⟨_, _, rfl, by simp [RE.den]⟩) rfl (by simp [IE.den]) (fun e he => by cases he; rfl)) (.cons (.eq (.refl _)) (.cons (.eq (.refl _)) .nil))))) ⟨.dead _, trivial⟩ rfl rfl ?_
        refine CallP.pure _ (ih (cs ++ [z]) (by simp; omega)) rfl ?_
        have hN : rcN (cs ++ [z]) = (rc (cs ++ [z])).isNone := by rw [hrcN]
        have hL : rcL (cs ++ [z]) = (rc (cs ++ [z])).getD [] := by rw [hrcL]
        obtain ⟨oN, hoN⟩ : ∃ b, b = rcN (cs ++ [z]) := ⟨_, rfl⟩
        obtain ⟨oL, hoL⟩ : ∃ b, b = rcL (cs ++ [z]) := ⟨_, rfl⟩
        rw [← hoN] at hN ⊢
        rw [← hoL] at hL ⊢
        clear hoN hoL
        cbv
        refine SplitP.mk (fun h5 => ?_) (fun h5 => ?_)
        · replace h5 : oN = false := by simpa using (show (!oN) = true from h5)
          obtain ⟨y, hy⟩ : ∃ y, rc (cs ++ [z]) = some y := by
            rw [h5] at hN
            cases hr : rc (cs ++ [z]) with
            | none => rw [hr] at hN; cases hN
            | some y => exact ⟨y, rfl⟩
          rw [hy] at hk hL
          have := found hzl y hk
          refine .mk (.cons (.eq (.slmb ?_ ?_)) .nil) rfl
          · rw [BE.var_d, BE.var_d, h5, hro, this]; rfl
          · rw [hL, hrl, this]
        · replace h5 : oN = true := by simpa using (show (!oN) = false from h5)
          have hk2 : F z.toNat = none := by
            rw [hk]
            rw [h5] at hN
            cases hr : rc (cs ++ [z]) with
            | none => rfl
            | some y => rw [hr] at hN; cases hN
          refine BackP.intro (z + 1) (next hzl hk2) (by show n - (z + 1).toNat < n - z.toNat; ((try simp only [ncast] at *); omega)) ⟨?_, trivial, rfl⟩
          (cbv; (repeat' (first | exact SnD.refl _ | exact trivial | exact SnD.nat0 | refine And.intro ?_ ?_)))
          exact .eq (.int (by show binDen .add .i64 z 1 = z + 1; exact add64 (by ((try simp only [ncast] at *); omega)) (by ((try simp only [ncast] at *); omega))))
    · have hk := keepF (fun h => by omega)
      clear skip keepF
      cbv
      refine ReqP.mk (app_first cs (by omega)) (fun _ => ?_)
      refine ReqP.mk (app_second cs z (by omega)) (fun _ => ?_)
      refine CallP.lend [.slm 3 na IssuedD.c l, .slm 4 nb SeenD.c m, .slm 1 (some (.lit false)) intC (cs ++ [z])] _ (hE (cs ++ [z]) (by simp; omega)) (.cons (.eq (.refl _)) (.cons (.eq (.refl _)) (.cons (.slm rfl (.inl ⟨_, _, rfl, by simp [RE.den]⟩) rfl (by simp [IE.den]) (fun e he => by cases he; rfl)) .nil))) rfl rfl ?_
      cbv
      refine SplitP.mk (fun h4 => ?_) (fun h4 => ?_)
      · replace h4 : eb (cs ++ [z]) = false := by simpa using (show (!eb (cs ++ [z])) = true from h4)
        have hk2 : F z.toNat = none := by rw [hk, if_neg (by rw [h4]; exact Bool.false_ne_true)]
        refine BackP.intro (z + 1) (next hzl hk2) (by show n - (z + 1).toNat < n - z.toNat; ((try simp only [ncast] at *); omega)) ⟨?_, trivial, rfl⟩
        (cbv; (repeat' (first | exact SnD.refl _ | exact trivial | exact SnD.nat0 | refine And.intro ?_ ?_)))
        exact .eq (.int (by show binDen .add .i64 z 1 = z + 1; exact add64 (by ((try simp only [ncast] at *); omega)) (by ((try simp only [ncast] at *); omega))))
      replace h4 : eb (cs ++ [z]) = true := by simpa using (show (!eb (cs ++ [z])) = false from h4)
      rw [if_pos h4] at hk
      refine CallP.pre [.slm 3 na IssuedD.c l, .slm 4 nb SeenD.c m, .slm 1 (some (.lit false)) intC (cs ++ [z]), i64 g, i64 p] [.dead] (.cons (.eq (.refl _)) (.cons (.eq (.refl _)) (.cons (.slm rfl (.inl ⟨_, _, rfl, by simp [RE.den]⟩) rfl (by simp [IE.den]) (fun e he => by cases he; rfl)) (.cons (.eq (.refl _)) (.cons (.eq (.refl _)) .nil))))) ⟨.dead _, trivial⟩ rfl rfl ?_
      refine CallP.pure _ (ih (cs ++ [z]) (by simp; omega)) rfl ?_
      have hN : rcN (cs ++ [z]) = (rc (cs ++ [z])).isNone := by rw [hrcN]
      have hL : rcL (cs ++ [z]) = (rc (cs ++ [z])).getD [] := by rw [hrcL]
      obtain ⟨oN, hoN⟩ : ∃ b, b = rcN (cs ++ [z]) := ⟨_, rfl⟩
      obtain ⟨oL, hoL⟩ : ∃ b, b = rcL (cs ++ [z]) := ⟨_, rfl⟩
      rw [← hoN] at hN ⊢
      rw [← hoL] at hL ⊢
      clear hoN hoL
      cbv
      refine SplitP.mk (fun h5 => ?_) (fun h5 => ?_)
      · replace h5 : oN = false := by simpa using (show (!oN) = true from h5)
        obtain ⟨y, hy⟩ : ∃ y, rc (cs ++ [z]) = some y := by
          rw [h5] at hN
          cases hr : rc (cs ++ [z]) with
          | none => rw [hr] at hN; cases hN
          | some y => exact ⟨y, rfl⟩
        rw [hy] at hk hL
        have := found hzl y hk
        refine .mk (.cons (.eq (.slmb ?_ ?_)) .nil) rfl
        · rw [BE.var_d, BE.var_d, h5, hro, this]; rfl
        · rw [hL, hrl, this]
      · replace h5 : oN = true := by simpa using (show (!oN) = false from h5)
        have hk2 : F z.toNat = none := by
          rw [hk]
          rw [h5] at hN
          cases hr : rc (cs ++ [z]) with
          | none => rfl
          | some y => rw [hr] at hN; cases hN
        refine BackP.intro (z + 1) (next hzl hk2) (by show n - (z + 1).toNat < n - z.toNat; ((try simp only [ncast] at *); omega)) ⟨?_, trivial, rfl⟩
        (cbv; (repeat' (first | exact SnD.refl _ | exact trivial | exact SnD.nat0 | refine And.intro ?_ ?_)))
        exact .eq (.int (by show binDen .add .i64 z 1 = z + 1; exact add64 (by ((try simp only [ncast] at *); omega)) (by ((try simp only [ncast] at *); omega))))
end Go.Proofs.YtaopkjgldokahaaGreatDoor
namespace Go.Proofs.YtaopkjgldokahaaGreatDoor
open Go.RowKit

/-! The reference: People. -/
def insI (p : Int) : List Int → List Int
  | [] => [p]
  | a :: l => if a < p then a :: insI p l else if a = p then a :: l else p :: a :: l
def peopleL (I : List IssuedD) : List Int := I.foldl (fun l x => insI x.person l) []
theorem insI_at (p : Int) : ∀ (l : List Int) (n : Nat), n ≤ l.length → (∀ i a, i < n → l[i]? = some a → a < p) → (∀ a, l[n]? = some a → ¬ a < p) → insI p l = if l[n]? = some p then l else l.take n ++ [p] ++ l.drop n
  | [], n, hn, _, _ => by
    have : n = 0 := by simpa using hn
    subst this
    rfl
  | a :: l, 0, _, _, h => by
    have := h a rfl
    simp only [insI, if_neg this, List.getElem?_cons_zero, Option.some.injEq]
    by_cases e : a = p <;> simp [e]
  | a :: l, n + 1, hn, h1, h2 => by
    have ha := h1 0 a (by omega) rfl
    simp only [insI, if_pos ha]
    rw [insI_at p l n (by simpa using hn) (fun i b hi hb => h1 (i + 1) b (by omega) (by simpa using hb)) (fun b hb => h2 b (by simpa using hb))]
    simp only [List.getElem?_cons_succ]
    split <;> simp
theorem insI_len (p : Int) : ∀ l : List Int, (insI p l).length ≤ l.length + 1
  | [] => by simp [insI]
  | a :: l => by
    have := insI_len p l
    simp only [insI]
    split
    · simp; omega
    · split <;> simp
theorem people_len (I : List IssuedD) : ∀ k, (peopleL (I.take k)).length ≤ k := by
  intro k
  induction k with
  | zero => simp [peopleL]
  | succ k ih =>
    rw [List.take_add_one]
    cases h : I[k]? with
    | none => simp only [Option.toList_none, List.append_nil]; omega
    | some x =>
      simp only [Option.toList_some, peopleL, List.foldl_append, List.foldl_cons, List.foldl_nil]
      have := insI_len x.person ((I.take k).foldl (fun l x => insI x.person l) [])
      unfold peopleL at ih
      omega
theorem people_succ {I : List IssuedD} {k : Nat} {x : IssuedD} (h : I[k]? = some x) : peopleL (I.take (k + 1)) = insI x.person (peopleL (I.take k)) := by
  rw [List.take_add_one, h]
  simp [peopleL, List.foldl_append]
theorem app_third (l1 l2 : List Int) (z : Int) (h1 : l1.length ≤ 100000) (h2 : l2.length ≤ 100000) : (IE.len l2).den = ((RE.map intC l2).den.length : Int) ∧ (IE.sum (IE.len l1) (IE.lit 1)).den = ((((RE.lits []).apps (RE.map intC l1)).app (intC z)).den.length : Int) ∧ (∀ e ∈ (RE.map intC l2).den, e.all D.cellB = true) ∧ (∀ e ∈ (((RE.lits []).apps (RE.map intC l1)).app (intC z)).den, e.all D.cellB = true) ∧ (IE.sum (IE.len l1) (IE.lit 1)).den + (IE.len l2).den ≤ 9223372036854775807 ∧ ((IE.sum (IE.len l1) (IE.lit 1)).den + (IE.len l2).den) * ((8 : Nat) : Int) ≤ 140737488355328 := by
  refine ⟨by simp [IE.den, RE.den], by simp [IE.den, RE.den], int_cell l2, fun e he => ?_, by simp only [IE.den]; omega, by simp only [IE.den]; omega⟩
  simp only [RE.den, List.nil_append, List.mem_append, List.mem_singleton] at he
  rcases he with he | rfl
  · exact int_cell l1 e he
  · rfl
set_option maxRecDepth 100000 in
set_option maxHeartbeats 4000000 in
theorem People_pure (l : List IssuedD) (na : Option BE) (hl : l.length ≤ 1000) : Pure Tryz.prog 73 [.slm 3 na IssuedD.c l] (.slm 1 (some (.lit false)) intC (peopleL l)) := by
  obtain ⟨n, hn⟩ : ∃ n : Nat, n = l.length := ⟨_, rfl⟩
  obtain ⟨pl, hpl⟩ : ∃ f : Nat → List Int, f = fun k => peopleL (l.take k) := ⟨_, rfl⟩
  have hlen : ∀ k, (pl k).length ≤ k := fun k => by rw [hpl]; exact people_len l k
  have hsucc : ∀ (k : Nat) x, l[k]? = some x → pl (k + 1) = insI x.person (pl k) := fun k x h => by rw [hpl]; exact people_succ h
  have hend : pl l.length = peopleL l := by rw [hpl]; simp
  obtain ⟨res, hres⟩ : ∃ r, r = peopleL l := ⟨_, rfl⟩
  rw [← hres] at hend ⊢
  have hz : pl 0 = [] := by rw [hpl]; rfl
  clear hpl hres
  refine Pure.intro (want := [.slm 1 (some (.lit false)) intC res]) T_ok follows Tryz.func73 rfl (by kernel_rfl) (rs := [.tmp 2]) rfl (by kernel_rfl) ?_
  generalize hP : Tryz.prog = P
  have hT : T.ok P := hP ▸ T_ok
  have hm : P.follows .mixedOrders = true := hP ▸ follows
  unfold Tryz.f73
  dsimp only
  cbv
  refine CodeP.keep [0, 3, 4] ?_
  refine CodeP.loopm hT hm (X := Nat × List Int) (fun x => [(4, .int .i64 (.nat x.1)), (3, .slm 1 (some (.lit false)) intC x.2)]) (fun _ => []) (fun x => x.1 ≤ n ∧ x.2 = pl x.1) (fun x => n - x.1) (0, []) ⟨by simp, hz.symm⟩ (fun _ => Nat.zero_le _) ⟨?_, trivial, rfl⟩ ?_
  · refine ⟨.nat0, .slm rfl (.inl ⟨_, _, rfl, rfl⟩) rfl rfl (fun e he => by cases he; rfl), ?_⟩
    (cbv; (repeat' (first | exact SnD.refl _ | exact trivial | exact SnD.nat0 | refine And.intro ?_ ?_)))
  intro ⟨k, L⟩ ⟨hk, hL⟩
  simp only at hk hL
  have hLl := hlen k
  rw [← hL] at hLl
  cbv
  refine SplitP.mk (fun hs => ?_) (fun hs => ?_)
  rotate_left
  · have hkn : l.length ≤ k := by
      have h5 : decide ((k : Int) < (l.length : Int)) = false := hs
      have := of_decide_eq_false h5
      omega
    clear hs
    refine .mk (.cons (.eq (.slm (.inr rfl) ?_)) .nil) rfl
    rw [hL, show k = l.length by omega, hend]
  have hkn : k < l.length := by
    have h5 : decide ((k : Int) < (l.length : Int)) = true := hs
    have := of_decide_eq_true h5
    omega
  clear hs
  obtain ⟨x, hx⟩ : ∃ x, l[k]? = some x := ⟨_, List.getElem?_eq_getElem (by omega)⟩
  have hs1 := hsucc k x hx
  rw [← hL] at hs1
  obtain ⟨xr, xp, xn, xv⟩ := x
  simp only at hs1
  obtain ⟨nL, hnL⟩ : ∃ n : Nat, n = L.length := ⟨_, rfl⟩
  refine CodeP.loopc hT hm (X := Nat) (fun j => [(5, .int .i64 (.nat j))]) (fun j => j ≤ L.length ∧ ∀ (i : Nat) a, i < j → L[i]? = some a → a < xp) (fun j => nL - j) 0 ⟨by simp, fun i a h => by omega⟩ (Nat.zero_le _) ?_ rfl ?_
  · (cbv; (repeat' (first | exact SnD.refl _ | exact trivial | exact SnD.nat0 | refine And.intro ?_ ?_)))
  intro j ⟨hj, hq⟩
  have hins := insI_at xp L j hj hq
  cbv
  refine SplitP.mk (fun hs => ?_) (fun hs => ?_)
  · have hjl : j < L.length := by have := of_decide_eq_true (show decide ((j : Int) < (L.length : Int)) = true from hs); omega
    clear hs
    refine ElemP.mk (by show (0 : Int) ≤ (j : Int) ∧ (j : Int) < (L.length : Int); omega) (fun a ha => ?_)
    replace ha : L[j]? = some a := ha
    cbv
    refine ElemP.mk (by show (0 : Int) ≤ (k : Int) ∧ (k : Int) < (l.length : Int); omega) (fun x2 hx2 => ?_)
    replace hx2 : l[k]? = some x2 := hx2
    rw [hx] at hx2
    simp only [Option.some.injEq] at hx2
    subst hx2
    cbv
    refine SplitP.mk (fun hs => ?_) (fun hs => ?_) <;> simp only [BE.lss_t, BE.lss_f, IE.var_d] at hs
    · refine BackP.intro (j + 1) ⟨by omega, fun i b hi hb => ?_⟩ (by show nL - (j + 1) < nL - j; omega) ⟨?_, trivial, rfl⟩
      · rcases Nat.lt_or_ge i j with q | q
        · exact hq i b q hb
        · rw [show i = j by omega, ha] at hb
          cases hb
          exact hs
      · (cbv; (repeat' (first | exact SnD.refl _ | exact trivial | exact SnD.nat0 | refine And.intro ?_ ?_)))
        exact .inc (by omega)
    have hins := hins (fun b hb => by rw [ha] at hb; cases hb; omega)
    refine SplitP.mk (fun hs2 => ?_) (fun hs2 => ?_)
    · exfalso
      have h4 : ((j : Int) == (L.length : Int)) = true := hs2
      simp at h4
      omega
    clear hs2
    refine ElemP.mk (by show (0 : Int) ≤ (j : Int) ∧ (j : Int) < (L.length : Int); omega) (fun a2 ha2 => ?_)
    replace ha2 : L[j]? = some a2 := ha2
    rw [ha] at ha2
    simp only [Option.some.injEq] at ha2
    subst ha2
    cbv
    refine ElemP.mk (by show (0 : Int) ≤ (k : Int) ∧ (k : Int) < (l.length : Int); omega) (fun x2 hx2 => ?_)
    replace hx2 : l[k]? = some x2 := hx2
    rw [hx] at hx2
    simp only [Option.some.injEq] at hx2
    subst hx2
    cbv
    refine SplitP.mk (fun h6 => ?_) (fun h6 => ?_) <;> simp only [BE.neq_t, BE.neq_f, IE.var_d] at h6
    · have hi2 : pl (k + 1) = L.take j ++ [xp] ++ L.drop j := by rw [hs1, hins, if_neg (by rw [ha]; intro e; cases e; exact h6 rfl)]
      refine FootP.intro hT hm [(4, [0]), (11, [0]), (15, [0])] (by kernel_rfl) ?_
      cbv
      refine ReqP.mk (by simp [IE.den]; omega) (fun _ => ?_)
      refine LetP.mk fun l1 hl1 => ?_
      replace hl1 : l1 = L.take j := hl1.trans List.drop_zero
      have hl1n : l1.length ≤ 1000 := by rw [hl1, List.length_take]; omega
      cbv
      refine ReqP.mk (app_first l1 (by omega)) (fun _ => ?_)
      refine ElemP.mk (by show (0 : Int) ≤ (k : Int) ∧ (k : Int) < (l.length : Int); omega) (fun x3 hx3 => ?_)
      replace hx3 : l[k]? = some x3 := hx3
      rw [hx] at hx3
      simp only [Option.some.injEq] at hx3
      subst hx3
      cbv
      refine ReqP.mk (app_second l1 xp (by omega)) (fun _ => ?_)
      refine ReqP.mk (by simp [IE.den]; omega) (fun _ => ?_)
      refine LetP.mk fun l2 hl2 => ?_
      replace hl2 : l2 = L.drop j := by
        replace hl2 : l2 = (L.take L.length).drop j := hl2
        rw [hl2, List.take_length]
      have hl2n : l2.length ≤ 1000 := by rw [hl2, List.length_drop]; omega
      cbv
      refine ReqP.mk (app_third l1 l2 xp (by omega) (by omega)) (fun _ => ?_)
      refine BackP.intro (k + 1, l1 ++ [xp] ++ l2) ⟨by simp only; omega, by simp only; rw [hi2, hl1, hl2]⟩ (by show n - (k + 1) < n - k; omega) ⟨?_, trivial, rfl⟩
      refine ⟨.inc (by omega), .slm rfl (.inl ⟨_, _, rfl, by simp [RE.den]⟩) rfl (by simp [IE.den]; omega) (fun e he => by cases he; rfl), ?_⟩
      (cbv; (repeat' (first | exact SnD.refl _ | exact trivial | exact SnD.nat0 | refine And.intro ?_ ?_)))
    · rw [if_pos (by rw [ha, h6])] at hins
      refine BackP.intro (k + 1, L) ⟨by simp only; omega, by simp only; rw [hs1, hins]⟩ (by show n - (k + 1) < n - k; omega) ⟨?_, trivial, rfl⟩
      (cbv; (repeat' (first | exact SnD.refl _ | exact trivial | exact SnD.nat0 | refine And.intro ?_ ?_)))
      exact .inc (by omega)
  · have hjl : L.length ≤ j := by have := of_decide_eq_false (show decide ((j : Int) < (L.length : Int)) = false from hs); omega
    clear hs
    have hLj : L[j]? = none := List.getElem?_eq_none (by omega)
    have hins := hins (fun b hb => by rw [hLj] at hb; cases hb)
    have hi2 : pl (k + 1) = L.take j ++ [xp] ++ L.drop j := by rw [hs1, hins, if_neg (by rw [hLj]; intro e; cases e)]
    refine SplitP.mk (fun hs2 => ?_) (fun hs2 => ?_)
    rotate_left
    · exfalso
      have h4 : ((j : Int) == (L.length : Int)) = false := hs2
      rw [show j = L.length by omega] at h4
      simp at h4
    clear hs2
    refine FootP.intro hT hm [(4, [0]), (11, [0]), (15, [0])] (by kernel_rfl) ?_
    cbv
    refine ReqP.mk (by simp [IE.den]; omega) (fun _ => ?_)
    refine LetP.mk fun l1 hl1 => ?_
    replace hl1 : l1 = L.take j := hl1.trans List.drop_zero
    have hl1n : l1.length ≤ 1000 := by rw [hl1, List.length_take]; omega
    cbv
    refine ReqP.mk (app_first l1 (by omega)) (fun _ => ?_)
    refine ElemP.mk (by show (0 : Int) ≤ (k : Int) ∧ (k : Int) < (l.length : Int); omega) (fun x3 hx3 => ?_)
    replace hx3 : l[k]? = some x3 := hx3
    rw [hx] at hx3
    simp only [Option.some.injEq] at hx3
    subst hx3
    cbv
    refine ReqP.mk (app_second l1 xp (by omega)) (fun _ => ?_)
    refine ReqP.mk (by simp [IE.den]; omega) (fun _ => ?_)
    refine LetP.mk fun l2 hl2 => ?_
    replace hl2 : l2 = L.drop j := by
      replace hl2 : l2 = (L.take L.length).drop j := hl2
      rw [hl2, List.take_length]
    have hl2n : l2.length ≤ 1000 := by rw [hl2, List.length_drop]; omega
    cbv
    refine ReqP.mk (app_third l1 l2 xp (by omega) (by omega)) (fun _ => ?_)
    refine BackP.intro (k + 1, l1 ++ [xp] ++ l2) ⟨by simp only; omega, by simp only; rw [hi2, hl1, hl2]⟩ (by show n - (k + 1) < n - k; omega) ⟨?_, trivial, rfl⟩
    refine ⟨.inc (by omega), .slm rfl (.inl ⟨_, _, rfl, by simp [RE.den]⟩) rfl (by simp [IE.den]; omega) (fun e he => by cases he; rfl), ?_⟩
    (cbv; (repeat' (first | exact SnD.refl _ | exact trivial | exact SnD.nat0 | refine And.intro ?_ ?_)))
theorem optL (o : Option (List Int)) : o.isNone = true → o.getD [] = [] := fun h => by cases o <;> simp_all
end Go.Proofs.YtaopkjgldokahaaGreatDoor
namespace Go.Proofs.YtaopkjgldokahaaGreatDoor
open Go.RowKit

/-! The reference: Of, Any. -/
def ofR (I : List IssuedD) (S : List SeenD) (g : Int) : List Int := (peopleL I).filter fun p => !(firstR I S g p S.length []).isNone
theorem row_app {H H' : List Bk} {α : Type} {ty n ver : Nat} {c : α → List D} {cur cur' : List α} {e : List D} (z : α) (hc : cur' = cur ++ [z]) (he : DsEq e (c z)) : BkEq H H' (.row ty n ver (.app (.map c cur) e)) (.row ty n ver (.map c cur')) := by
  subst hc
  refine .rowe (by simp [RE.den]) fun i a b h1 h2 => ?_
  simp only [RE.den, List.map_append, List.map_cons, List.map_nil] at h1 h2
  rcases Nat.lt_or_ge i cur.length with q | q
  · rw [List.getElem?_append_left (by simpa using q)] at h1 h2
    rw [h1] at h2
    cases h2
    exact ⟨rfl, fun j d d' h3 h4 => by rw [h3] at h4; cases h4; exact .refl _⟩
  · rw [List.getElem?_append_right (by simpa using q)] at h1 h2
    have hi : i - (cur.map c).length = 0 := by
      have := (List.getElem?_eq_some_iff.1 h1).1
      simpa using this
    rw [hi] at h1 h2
    simp at h1 h2
    subst h1 h2
    exact he.get
theorem map_cells {α : Type} {c : α → List D} {cur : List α} (h : ∀ a, (c a).all D.cellB = true) : ∀ e ∈ (RE.map c cur).den, e.all D.cellB = true := fun e he => by
  simp only [RE.den, List.mem_map] at he
  obtain ⟨a, _, rfl⟩ := he
  exact h a
theorem app_ok {α : Type} {c : α → List D} {cur : List α} {k : Nat} {e : List D} {by_ : Nat} (hk : cur.length = k) (hk2 : k ≤ 1000000) (hc : ∀ a, (c a).all D.cellB = true) (he : e.all D.cellB = true) (hby : by_ ≤ 10000000) :
    (IE.lit 1).den = (RE.lits [e]).den.length ∧ (IE.nat k).den = (RE.map c cur).den.length ∧ (∀ e' ∈ (RE.lits [e]).den, e'.all D.cellB = true) ∧ (∀ e' ∈ (RE.map c cur).den, e'.all D.cellB = true) ∧ (IE.nat k).den + (IE.lit 1).den ≤ 9223372036854775807 ∧ ((IE.nat k).den + (IE.lit 1).den) * (by_ : Int) ≤ 140737488355328 := by
  refine ⟨rfl, ?_, fun e' he' => ?_, map_cells hc, ?_, ?_⟩
  · simp [IE.den, RE.den, hk]
  · simp [RE.den] at he'
    subst he'
    exact he
  · simp only [IE.den]; omega
  · simp only [IE.den]
    exact small_bytes (by omega) (by omega)
theorem osl_inc {H H' : List Bk} {n b v : Nat} (k : Nat) : SnD H H' (.osl n b v (.lit false) (.lit 0) (.sum (.nat k) (.lit 1))) (.osl n b v (.lit false) (.lit 0) (.nat (k + 1))) := by
  refine .eq (.osl rfl rfl ?_)
  show (k : Int) + 1 = ((k + 1 : Nat) : Int)
  omega
theorem osl_step {H H' : List Bk} {n b v : Nat} (k : Nat) : SnD H H' (.osl n b v (.lit false) (.lit 0) (.sum (.nat k) (.lit 1))) (.osl n b v (.cmp .eql (.nat (k + 1)) (.lit 0)) (.lit 0) (.nat (k + 1))) := by
  refine .eq (.osl ?_ rfl ?_)
  · show false = (((k + 1 : Nat) : Int) == 0)
    exact (beq_eq_false_iff_ne.2 (by omega)).symm
  · show (k : Int) + 1 = ((k + 1 : Nat) : Int)
    omega
def okOf (I : List IssuedD) (S : List SeenD) (g : Int) : Bool := checkB I S && occB g S
set_option maxRecDepth 100000 in
set_option maxHeartbeats 4000000 in
theorem ROf_pure (l : List IssuedD) (m : List SeenD) (g : Int) (na nb : Option BE) (hl : BigI l) (hs' : BigS m) : Pure Tryz.prog 54 [.slm 3 na IssuedD.c l, .slm 4 nb SeenD.c m, i64 g] (.tup [.slm 1 (some (.var (!okOf l m g))) intC (if okOf l m g then ofR l m g else []), i64 (if okOf l m g then 0 else 300)]) := by
  have hC := RCheck_pure l m na nb hl hs'
  have hO := Occurs_pure m nb g hs'.len
  have hP := People_pure l na
  have hF := first_pure l m na nb g
  obtain ⟨okc, hok⟩ : ∃ b, b = checkB l m := ⟨_, rfl⟩
  have hlm : okc = true → l.length ≤ 64 ∧ m.length ≤ 16 := fun h => by
    rw [hok, checkB] at h
    simp only [Bool.and_eq_true, decide_eq_true_eq] at h
    exact h.1
  obtain ⟨oc, hoc⟩ : ∃ b, b = occB g m := ⟨_, rfl⟩
  obtain ⟨ok, hok2⟩ : ∃ b, b = okOf l m g := ⟨_, rfl⟩
  rw [← hok2]
  have hok3 : ok = (okc && oc) := by rw [hok2, hok, hoc]; rfl
  rw [← hok] at hC
  rw [← hoc] at hO
  obtain ⟨rb, hrb⟩ : ∃ b, b = !ok := ⟨_, rfl⟩
  obtain ⟨rl, hrl⟩ : ∃ r, r = if ok then ofR l m g else [] := ⟨_, rfl⟩
  obtain ⟨re, hre⟩ : ∃ r : Int, r = if ok then 0 else 300 := ⟨_, rfl⟩
  rw [← hrb, ← hrl, ← hre]
  obtain ⟨e1, he1⟩ : ∃ r : Int, r = if okc then 0 else 300 := ⟨_, rfl⟩
  rw [← he1] at hC
  obtain ⟨pl, hpl⟩ : ∃ p, p = peopleL l := ⟨_, rfl⟩
  rw [← hpl] at hP
  have hpn : pl.length ≤ l.length := by
    have := people_len l l.length
    rw [List.take_length] at this
    rw [hpl]
    exact this
  obtain ⟨fN, hfN⟩ : ∃ f : Int → Bool, f = fun p => (firstR l m g p m.length []).isNone := ⟨_, rfl⟩
  obtain ⟨fL, hfL⟩ : ∃ f : Int → List Int, f = fun p => (firstR l m g p m.length []).getD [] := ⟨_, rfl⟩
  have hF' : m.length ≤ 100 → ∀ p, Pure Tryz.prog 74 [.slm 3 na IssuedD.c l, .slm 4 nb SeenD.c m, .slm 1 (some (.lit false)) intC [], i64 g, i64 p] (.slm 1 (some (.var (fN p))) intC (fL p)) := fun h p => by rw [hfN, hfL]; exact hF p hl hs' h m.length [] (by simp)
  clear hF
  have hof : ofR l m g = pl.filter fun p => !fN p := by rw [hpl, hfN]; rfl
  rw [hof] at hrl
  clear hof hfN hfL hpl hok2 hoc
  have bad : ∀ {H : List Bk}, ok = false → RetP H [.nils, .int .i64 (.lit 300)] [.slm 1 (some (.var rb)) intC rl, i64 re] := fun h => by
    refine .mk (.cons (.eq (.nilv ?_ ?_)) (.cons (.eq (.int ?_)) .nil)) rfl
    · rw [hrl, h]; rfl
    · rw [BE.var_d, hrb, h]; rfl
    · rw [IE.lit_d, IE.var_d, hre, h]; rfl
  obtain ⟨n, hn⟩ : ∃ n : Nat, n = pl.length := ⟨_, rfl⟩
  refine Pure.intro (want := [.slm 1 (some (.var rb)) intC rl, i64 re]) T_ok follows Tryz.func54 rfl (by kernel_rfl) (rs := [.tmp 6, .tmp 7]) rfl (by kernel_rfl) ?_
  generalize hPP : Tryz.prog = P at *
  have hT : T.ok P := hPP ▸ T_ok
  have hm : P.follows .mixedOrders = true := hPP ▸ follows
  unfold Tryz.f54
  dsimp only
  cbv
  refine CallP.pure _ hC rfl ?_
  cbv
  refine SplitP.mk (fun h1 => ?_) (fun h1 => ?_) <;> simp only [BE.neq_t, BE.neq_f, IE.var_d, IE.lit_d] at h1
  · have : okc = false := by cases okc <;> simp_all
    exact bad (by rw [hok3, this]; rfl)
  have hokc : okc = true := by cases okc <;> simp_all
  obtain ⟨hl64, hm16⟩ := hlm hokc
  refine CallP.pure _ hO rfl ?_
  cbv
  refine SplitP.mk (fun h2 => ?_) (fun h2 => ?_)
  · replace h2 : oc = false := by simpa using (show (!oc) = true from h2)
    exact bad (by rw [hok3, h2, Bool.and_false])
  replace h2 : oc = true := by simpa using (show (!oc) = false from h2)
  have hokt : ok = true := by rw [hok3, hokc, h2]; rfl
  subst hokt
  have hrl : rl = pl.filter fun p => !fN p := hrl
  clear bad
  have hF' := hF' (by omega)
  refine CallP.pure _ (hP (by omega)) rfl ?_
  cbv
  refine CodeP.loopm hT hm (X := Nat × Nat × List Int) (fun x => [(10, .int .i64 (.nat x.1)), (8, .osl 1 0 (x.2.1 + 1) (.lit false) (.lit 0) (.nat x.2.1))]) (fun x => [.row 3 1 (x.2.1 + 1) (.map intC x.2.2)]) (fun x => x.1 ≤ n ∧ x.2.2.length = x.2.1 ∧ x.2.2 = (pl.take x.1).filter fun p => !fN p) (fun x => n - x.1) (0, 0, []) ⟨by simp, rfl, by simp⟩ (fun _ => Nat.zero_le _) ⟨?_, ?_, rfl⟩ ?_
  · (cbv; (repeat' (first | exact SnD.refl _ | exact trivial | exact SnD.nat0 | refine And.intro ?_ ?_)))
    exact .eq (.osl rfl rfl rfl)
  · exact ⟨.row rfl, trivial⟩
  intro ⟨k, c, acc⟩ ⟨hk, hc, hacc⟩
  simp only at hk hc hacc
  have hck : c ≤ k := by
    rw [← hc, hacc]
    have := List.length_filter_le (fun p => !fN p) (pl.take k)
    rw [List.length_take] at this
    omega
  cbv
  refine SplitP.mk (fun hs => ?_) (fun hs => ?_)
  rotate_left
  · have hkn : pl.length ≤ k := by
      have h5 : decide ((k : Int) < (pl.length : Int)) = false := hs
      have := of_decide_eq_false h5
      omega
    clear hs
    refine .mk (.cons (.slm rfl (.inl ⟨_, _, rfl, ?_⟩) rfl ?_ ?_) (.cons (.eq (.int ?_)) .nil)) rfl
    · show acc.map intC = rl.map intC
      rw [hrl, hacc, List.take_of_length_le (by omega)]
    · show (c : Int) = (rl.length : Int)
      rw [hrl, ← hc, hacc, List.take_of_length_le (by omega)]
    · intro e he
      cases he
      exact hrb
    · rw [IE.lit_d, IE.var_d, hre]; rfl
  have hkn : k < pl.length := by
    have h5 : decide ((k : Int) < (pl.length : Int)) = true := hs
    have := of_decide_eq_true h5
    omega
  clear hs
  refine ElemP.mk (by show (0 : Int) ≤ (k : Int) ∧ (k : Int) < (pl.length : Int); omega) (fun p hp => ?_)
  replace hp : pl[k]? = some p := hp
  have hFp := hF' p
  have hacc2 : (pl.take (k + 1)).filter (fun p => !fN p) = acc ++ if fN p = true then [] else [p] := by
    rw [List.take_add_one, hp, List.filter_append, ← hacc]
    cases h : fN p <;> simp [h]
  obtain ⟨pN, hpN⟩ : ∃ b, b = fN p := ⟨_, rfl⟩
  obtain ⟨pL, hpL⟩ : ∃ b, b = fL p := ⟨_, rfl⟩
  rw [← hpN] at hFp hacc2
  rw [← hpL] at hFp
  clear hpN hpL
  cbv
  refine CallP.pre [.slm 3 na IssuedD.c l, .slm 4 nb SeenD.c m, .slm 1 (some (.lit false)) intC [], i64 g, i64 p] [.row 3 1 (c + 1) (.map intC acc), .dead] (.cons (.eq (.refl _)) (.cons (.eq (.refl _)) (.cons (.slm rfl (.inl ⟨_, _, rfl, rfl⟩) rfl rfl (fun e he => by cases he; rfl)) (.cons (.eq (.refl _)) (.cons (.eq (.refl _)) .nil))))) ⟨.refl _, .dead _, trivial⟩ rfl rfl ?_
  refine CallP.pure _ hFp rfl ?_
  cbv
  refine SplitP.mk (fun h5 => ?_) (fun h5 => ?_)
  · replace h5 : pN = false := by simpa using (show (!pN) = true from h5)
    refine ElemP.mk (by show (0 : Int) ≤ (k : Int) ∧ (k : Int) < (pl.length : Int); omega) (fun p2 hp2 => ?_)
    replace hp2 : pl[k]? = some p2 := hp2
    rw [hp] at hp2
    simp only [Option.some.injEq] at hp2
    subst hp2
    cbv
    refine ReqP.mk (app_ok hc (by omega) (fun _ => rfl) rfl (by decide)) (fun _ => ?_)
    refine BackP.intro (k + 1, c + 1, acc ++ [p]) ⟨by simp only; omega, by simp only; rw [List.length_append, hc]; rfl, by simp only; rw [hacc2, h5]; rfl⟩ (by show n - (k + 1) < n - k; omega) ⟨?_, ?_, rfl⟩
    · refine ⟨.inc (by omega), osl_inc c, ?_⟩
      (cbv; (repeat' (first | exact SnD.refl _ | exact trivial | exact SnD.nat0 | refine And.intro ?_ ?_)))
    · exact ⟨row_app p rfl (.cons (.refl _) .nil), trivial⟩
  · replace h5 : pN = true := by simpa using (show (!pN) = false from h5)
    refine BackP.intro (k + 1, c, acc) ⟨by simp only; omega, hc, by simp only; rw [hacc2, h5]; simp⟩ (by show n - (k + 1) < n - k; omega) ⟨?_, ⟨.refl _, trivial⟩, rfl⟩
    (cbv; (repeat' (first | exact SnD.refl _ | exact trivial | exact SnD.nat0 | refine And.intro ?_ ?_)))
    exact .inc (by omega)
end Go.Proofs.YtaopkjgldokahaaGreatDoor
namespace Go.Proofs.YtaopkjgldokahaaGreatDoor
open Go.RowKit

/-! Sets of copies as bits. -/
def natOf (a : Nat → Bool) : Nat → Nat
  | 0 => 0
  | n + 1 => 2 ^ n * (a n).toNat + natOf a n
theorem natOf_lt (a : Nat → Bool) : ∀ n, natOf a n < 2 ^ n
  | 0 => by simp [natOf]
  | n + 1 => by
    have := natOf_lt a n
    simp only [natOf, Nat.pow_succ]
    cases a n <;> simp <;> omega
theorem natOf_bit (a : Nat → Bool) : ∀ n c, (natOf a n).testBit c = (decide (c < n) && a c)
  | 0, c => by simp [natOf]
  | n + 1, c => by
    simp only [natOf]
    rw [Nat.testBit_two_pow_mul_add _ (natOf_lt a n), natOf_bit a n c]
    by_cases h : c < n
    · rw [if_pos h]
      simp [h, show c < n + 1 by omega]
    · rw [if_neg h]
      by_cases h2 : c = n
      · subst h2
        simp only [Nat.sub_self, Nat.testBit_zero]
        cases a c <;> simp
      · have e : c - n = (c - n - 1) + 1 := by omega
        rw [e, Nat.testBit_succ]
        have : (a n).toNat / 2 = 0 := by cases a n <;> rfl
        rw [this]
        simp [show ¬ c < n + 1 by omega]
def enc (a : Nat → Bool) : Int := (natOf a 64 : Nat)
theorem enc_nn (a : Nat → Bool) : 0 ≤ enc a := by unfold enc; omega
theorem enc_lt (a : Nat → Bool) : enc a < 18446744073709551616 := by
  have := natOf_lt a 64
  unfold enc
  omega
theorem enc_u64 (a : Nat → Bool) : InR .u64 (enc a) := by
  have h1 := enc_nn a
  have h2 := enc_lt a
  simp [InR, IntKind.min, IntKind.max, IntKind.signed, IntKind.bits]
  omega
theorem enc_of {x : Nat} {a : Nat → Bool} (hx : x < 18446744073709551616) (h : ∀ c, c < 64 → x.testBit c = a c) : (x : Int) = enc a := by
  have : x = natOf a 64 := Nat.eq_of_testBit_eq fun c => by
    rw [natOf_bit]
    by_cases hc : c < 64
    · simp [hc, h c hc]
    · simp only [hc, decide_false, Bool.false_and]
      exact Nat.testBit_lt_two_pow (Nat.lt_of_lt_of_le hx (by
        have : 2 ^ 64 ≤ 2 ^ c := Nat.pow_le_pow_right (by omega) (by omega)
        exact this))
  unfold enc
  rw [← this]
theorem enc_congr {a b : Nat → Bool} (h : ∀ c, c < 64 → a c = b c) : enc a = enc b := enc_of (by have := natOf_lt a 64; omega) fun c hc => by rw [natOf_bit]; simp [hc, h c hc]
theorem enc_inj {a b : Nat → Bool} (h : enc a = enc b) : ∀ c, c < 64 → a c = b c := fun c hc => by
  have h1 : natOf a 64 = natOf b 64 := by unfold enc at h; omega
  have h2 := natOf_bit a 64 c
  rw [h1, natOf_bit] at h2
  simpa [hc] using h2.symm
theorem wrap_u64 {x : Nat} (h : x < 18446744073709551616) : IntKind.u64.wrap (x : Int) = x := by
  simp [IntKind.wrap, IntKind.signed, IntKind.bits]; omega
theorem bv_enc (a : Nat → Bool) (c : Nat) : (BitVec.ofInt 64 (enc a)).getLsbD c = (decide (c < 64) && a c) := by
  unfold enc
  rw [BitVec.ofInt_natCast, BitVec.getLsbD_ofNat, natOf_bit]
  by_cases h : c < 64 <;> simp [h]
theorem enc_bv (v : BitVec 64) {a : Nat → Bool} (h : ∀ c, c < 64 → v.getLsbD c = a c) : (v.toNat : Int) = enc a := enc_of v.isLt fun c hc => h c hc
theorem and_enc (a b : Nat → Bool) : binDen .and .u64 (enc a) (enc b) = enc (fun c => a c && b c) := by
  show IntKind.u64.wrap (((BitVec.ofInt 64 (enc a) &&& BitVec.ofInt 64 (enc b) : BitVec 64).toNat : Nat) : Int) = _
  rw [wrap_u64 (BitVec.isLt _)]
  exact enc_bv _ fun c hc => by rw [BitVec.getLsbD_and, bv_enc, bv_enc]; simp [hc]
theorem or_enc (a b : Nat → Bool) : binDen .or .u64 (enc a) (enc b) = enc (fun c => a c || b c) := by
  show IntKind.u64.wrap (((BitVec.ofInt 64 (enc a) ||| BitVec.ofInt 64 (enc b) : BitVec 64).toNat : Nat) : Int) = _
  rw [wrap_u64 (BitVec.isLt _)]
  exact enc_bv _ fun c hc => by rw [BitVec.getLsbD_or, bv_enc, bv_enc]; simp [hc]
theorem andNot_enc (a b : Nat → Bool) : binDen .andNot .u64 (enc a) (enc b) = enc (fun c => a c && !b c) := by
  show IntKind.u64.wrap (((BitVec.ofInt 64 (enc a) &&& ~~~ BitVec.ofInt 64 (enc b) : BitVec 64).toNat : Nat) : Int) = _
  rw [wrap_u64 (BitVec.isLt _)]
  exact enc_bv _ fun c hc => by rw [BitVec.getLsbD_and, BitVec.getLsbD_not, bv_enc, bv_enc]; simp [hc]
def oneB (c : Nat) (j : Nat) : Bool := j == c
theorem natOf_one {c : Nat} (hc : c < 64) : enc (oneB c) = ((2 ^ c : Nat) : Int) := (enc_of (by
  have : 2 ^ c < 2 ^ 64 := Nat.pow_lt_pow_right (by omega) hc
  exact this) fun j _ => by
  rw [Nat.testBit_two_pow]
  simp only [oneB]
  by_cases h : c = j
  · subst h; simp
  · simp [h, show ¬ j = c from fun e => h e.symm]).symm
theorem shl_one {c : Nat} (hc : c < 64) : binDen .shl .u64 1 (c : Int) = enc (oneB c) := by
  simp only [binDen, IntKind.bits]
  rw [natOf_one hc, show min (c : Int).toNat 64 = c by omega, Int.one_mul]
  have h2 : (2 : Nat) ^ c < 2 ^ 64 := Nat.pow_lt_pow_right (by omega) hc
  have := wrap_u64 (x := 2 ^ c) h2
  rw [← this]
  norm_cast
theorem enc_eq0 (a : Nat → Bool) : enc a = 0 ↔ ∀ c, c < 64 → a c = false := by
  have h0 : enc (fun _ => false) = 0 := (enc_of (x := 0) (by omega) fun c _ => by simp).symm
  constructor
  · intro h
    exact enc_inj (h.trans h0.symm)
  · intro h
    rw [← h0]
    exact enc_congr h
theorem shr_enc (a : Nat → Bool) {c : Nat} (hc : c < 64) : binDen .and .u64 (binDen .shr .u64 (enc a) (c : Int)) 1 = if a c then 1 else 0 := by
  have e1 : binDen .shr .u64 (enc a) (c : Int) = ((natOf a 64 / 2 ^ c : Nat) : Int) := by
    simp only [binDen, IntKind.bits]
    rw [show min (c : Int).toNat 64 = c by omega, Int.fdiv_eq_ediv_of_nonneg _ (by exact Int.le_of_lt (Int.pow_pos (by decide)))]
    unfold enc
    norm_cast
  rw [e1]
  show IntKind.u64.wrap (((BitVec.ofInt 64 ((natOf a 64 / 2 ^ c : Nat) : Int) &&& BitVec.ofInt 64 1 : BitVec 64).toNat : Nat) : Int) = _
  rw [wrap_u64 (BitVec.isLt _)]
  have hb : (BitVec.ofInt 64 ((natOf a 64 / 2 ^ c : Nat) : Int) &&& BitVec.ofInt 64 1) = if a c then 1#64 else 0#64 := by
    refine BitVec.eq_of_getLsbD_eq fun j hj => ?_
    rw [BitVec.getLsbD_and, BitVec.ofInt_natCast, BitVec.getLsbD_ofNat, Nat.testBit_div_two_pow, natOf_bit]
    have h1 : (BitVec.ofInt 64 1).getLsbD j = decide (j = 0) := by
      have : (BitVec.ofInt 64 1) = 1#64 := by decide
      rw [this]
      simp [BitVec.getLsbD_one]
    rw [h1]
    by_cases h0 : j = 0
    · subst h0
      simp [hc]
      cases a c <;> simp
    · simp [h0]
      cases a c <;> simp [h0]
  rw [hb]
  cases a c <;> rfl
/-- the least copy of a set -/
def lowB (a : Nat → Bool) (c : Nat) : Prop := c < 64 ∧ a c = true ∧ ∀ j, j < c → a j = false
theorem low_ex (a : Nat → Bool) (h : enc a ≠ 0) : ∃ c, lowB a c := by
  have h1 : ∃ c, c < 64 ∧ a c = true := Classical.byContradiction fun q => h ((enc_eq0 a).2 fun c hc => by
    cases hb : a c with
    | false => rfl
    | true => exact absurd ⟨c, hc, hb⟩ q)
  obtain ⟨c, hc, hb⟩ := h1
  induction c using Nat.strongRecOn with
  | _ c ih =>
    by_cases q : ∃ j, j < c ∧ a j = true
    · obtain ⟨j, hj, hj2⟩ := q
      exact ih j hj (by omega) hj2
    · exact ⟨c, hc, hb, fun j hj => by
        cases hb2 : a j with
        | false => rfl
        | true => exact absurd ⟨j, hj, hb2⟩ q⟩
theorem odd_bit (m k : Nat) : (2 * m).testBit (k + 1) = (2 * m + 1).testBit (k + 1) := by
  rw [Nat.testBit_succ, Nat.testBit_succ, show 2 * m / 2 = m by omega, show (2 * m + 1) / 2 = m by omega]
theorem low_bit {a : Nat → Bool} {c : Nat} (h : lowB a c) : binDen .and .u64 (enc a) (binDen .sub .u64 0 (enc a)) = ((2 ^ c : Nat) : Int) := by
  obtain ⟨hc, h1, h2⟩ := h
  obtain ⟨x, hx⟩ : ∃ x, x = natOf a 64 := ⟨_, rfl⟩
  have hb : ∀ j, x.testBit j = (decide (j < 64) && a j) := fun j => by rw [hx]; exact natOf_bit a 64 j
  have hlt : x < 2 ^ 64 := by rw [hx]; exact natOf_lt a 64
  have hpos : 0 < x := by
    rcases Nat.eq_zero_or_pos x with q | q
    · have := hb c
      rw [q, h1] at this
      simp [hc] at this
    · exact q
  have e1 : binDen .sub .u64 0 (enc a) = ((2 ^ 64 - x : Nat) : Int) := by
    unfold enc
    rw [← hx]
    simp only [binDen, IntKind.wrap, IntKind.signed, IntKind.bits]
    simp
    omega
  have hdiv : x = 2 ^ c * (x / 2 ^ c) := by
    have hm : x % 2 ^ c = 0 := by
      refine Nat.eq_of_testBit_eq fun j => ?_
      rw [Nat.testBit_mod_two_pow, hb]
      by_cases q : j < c
      · simp [q, h2 j q]
      · simp [q]
    have := Nat.div_add_mod x (2 ^ c)
    omega
  have hodd : (x / 2 ^ c) % 2 = 1 := by
    have := hb c
    rw [h1] at this
    simp only [hc, decide_true, Bool.and_true] at this
    rw [Nat.testBit_eq_decide_div_mod_eq] at this
    simpa using this
  obtain ⟨m, hm⟩ : ∃ m, x / 2 ^ c = 2 * m + 1 := ⟨x / 2 ^ c / 2, by omega⟩
  have hx1 : x - 1 = 2 ^ c * (2 * m) + (2 ^ c - 1) := by
    have hp : 0 < 2 ^ c := Nat.two_pow_pos c
    rw [hdiv, hm, Nat.mul_add]
    omega
  have hb1 : ∀ j, (x - 1).testBit j = if j < c then true else (decide (c < j) && x.testBit j) := fun j => by
    rw [hx1, Nat.testBit_two_pow_mul_add _ (by have := Nat.two_pow_pos c; omega)]
    split
    · next q => rw [Nat.testBit_two_pow_sub_one]; simp [q]
    · next q =>
      by_cases e : j = c
      · subst e
        simp
      · rw [show decide (c < j) = true by simp; omega, Bool.true_and]
        have e2 : x.testBit j = (2 ^ c * (2 * m + 1) + 0).testBit j := by rw [Nat.add_zero, ← hm, ← hdiv]
        rw [e2, Nat.testBit_two_pow_mul_add _ (Nat.two_pow_pos c), if_neg q]
        have e3 : j - c = (j - c - 1) + 1 := by omega
        rw [e3]
        exact odd_bit m _
  rw [e1]
  show IntKind.u64.wrap (((BitVec.ofInt 64 (enc a) &&& BitVec.ofInt 64 ((2 ^ 64 - x : Nat) : Int) : BitVec 64).toNat : Nat) : Int) = _
  rw [wrap_u64 (BitVec.isLt _)]
  have := natOf_one hc
  rw [← this]
  refine enc_bv _ fun j hj => ?_
  rw [BitVec.getLsbD_and, bv_enc, BitVec.ofInt_natCast, BitVec.getLsbD_ofNat]
  rw [show 2 ^ 64 - x = 2 ^ 64 - ((x - 1) + 1) by omega, Nat.testBit_two_pow_sub_succ (by omega), hb1]
  simp only [oneB, hj, decide_true, Bool.true_and]
  by_cases q : j < c
  · rw [if_pos q, h2 j q]
    simp; omega
  · rw [if_neg q]
    by_cases e : j = c
    · subst e; simp [h1]
    · rw [show decide (c < j) = true by simp; omega, hb]
      simp [hj, e]
theorem wrapmul (x y : Nat) : IntKind.u64.wrap ((x : Int) * (y : Int)) = ((x * y % 18446744073709551616 : Nat) : Int) := by
  simp [IntKind.wrap, IntKind.signed, IntKind.bits]
theorem bruijn_ok : ∀ c : Fin 64, bruijn ((2 ^ c.val * 285870213051353865 % 18446744073709551616 / 288230376151711744)) = (c.val : Int) ∧ (2 ^ c.val * 285870213051353865 % 18446744073709551616 / 288230376151711744) < 64 := by decide
theorem tz_idx {c : Nat} (hc : c < 64) : binDen .shr .u64 (binDen .mul .u64 ((2 ^ c : Nat) : Int) 285870213051353865) 58 = ((2 ^ c * 285870213051353865 % 18446744073709551616 / 288230376151711744 : Nat) : Int) := by
  have e : binDen .mul .u64 ((2 ^ c : Nat) : Int) 285870213051353865 = ((2 ^ c * 285870213051353865 % 18446744073709551616 : Nat) : Int) := wrapmul (2 ^ c) 285870213051353865
  rw [e]
  simp only [binDen, IntKind.bits]
  rw [show min (58 : Int).toNat 64 = 58 by decide, Int.fdiv_eq_ediv_of_nonneg _ (by decide)]
  rfl
end Go.Proofs.YtaopkjgldokahaaGreatDoor
namespace Go.Proofs.YtaopkjgldokahaaGreatDoor
open Go.RowKit

/-! able: the persons who have a copy for each sight of a group. -/
abbrev groupC (g : List Nat) : List D := [.slm 1 none natC g]
abbrev optF (o : Nat → Nat → Bool) (i : Nat) : Int := enc (o i)
/-- a riddle, as data -/
structure Rid where
  S : List SeenD
  nbS : Option BE
  gs : List (List Nat)
  nbG : Option BE
  PF : Int → Option Int
  nP : IE
  order : List Int
  nbO : Option BE
  own : Int → Nat → Bool
abbrev Rid.c (r : Rid) : List D := [.slm 4 r.nbS SeenD.c r.S, .slm 1 r.nbG groupC r.gs, .mapd .i64 .u64 r.PF r.nP, .slm 1 r.nbO intC r.order]
structure Rid.ok (r : Rid) : Prop where
  pf : ∀ p ∈ r.order, r.PF p = some (enc (r.own p))
  seen : r.S.length ≤ 16
  ord : r.order.length ≤ 64
  gsl : r.gs.length ≤ 16
  grp : ∀ g ∈ r.gs, g.length ≤ 16 ∧ ∀ i ∈ g, i < 16
  one : ∀ g ∈ r.gs, g ≠ [] ∧ ∀ i ∈ g, i < r.S.length
  uniq : ∀ p q c, r.own p c = true → r.own q c = true → p = q
  mem : ∀ p c, r.own p c = true → p ∈ r.order
  nodup : r.order.Nodup
def meetB (a b : Nat → Bool) : Bool := !decide (enc (fun c => a c && b c) = 0)
theorem meetB_iff {a b : Nat → Bool} : meetB a b = true ↔ ∃ c, c < 64 ∧ a c = true ∧ b c = true := by
  unfold meetB
  rw [Bool.not_eq_true', decide_eq_false_iff_not, enc_eq0]
  constructor
  · intro h
    refine Classical.byContradiction fun q => h fun c hc => ?_
    cases ha : a c
    · rfl
    · cases hb : b c
      · rfl
      · exact absurd ⟨c, hc, ha, hb⟩ q
  · rintro ⟨c, hc, ha, hb⟩ h
    have := h c hc
    rw [ha, hb] at this
    cases this
def ableB (r : Rid) (o : Nat → Nat → Bool) (g : List Nat) (p : Int) : Bool := g.all fun i => meetB (o i) (r.own p)
def ableL (r : Rid) (o : Nat → Nat → Bool) (g : List Nat) : List Int := r.order.filter (ableB r o g)
set_option maxRecDepth 100000 in
set_option maxHeartbeats 4000000 in
theorem able1_pure (r : Rid) (hr : r.ok) (o : Nat → Nat → Bool) (i : Nat) (hi : i < 16) (p : Int) (hp : p ∈ r.order) : Pure Tryz.prog 91 [.int .i64 (.nat i), .dp [.dpa .u64 16 (optF o)] 0, .dp [.dp r.c 0] 0, .dp [i64 p] 0] (boolD (!meetB (o i) (r.own p))) := by
  have hpf := hr.pf p hp
  have hand := and_enc (o i) (r.own p)
  have hmeet : (!meetB (o i) (r.own p)) = decide (enc (fun c => o i c && r.own p c) = 0) := by unfold meetB; rw [Bool.not_not]
  obtain ⟨res, hres⟩ : ∃ b, b = !meetB (o i) (r.own p) := ⟨_, rfl⟩
  rw [← hres] at hmeet ⊢
  have hoi : optF o i = enc (o i) := rfl
  obtain ⟨f, hf⟩ : ∃ f, f = optF o := ⟨_, rfl⟩
  rw [← hf] at hoi ⊢
  obtain ⟨S, nbS, gs, nbG, PF, nP, order, nbO, own⟩ := r
  simp only at hpf hmeet hand
  clear hr hp hf
  obtain ⟨y, hy⟩ : ∃ y, y = enc (own p) := ⟨_, rfl⟩
  obtain ⟨z, hz⟩ : ∃ z, z = enc (fun c => o i c && own p c) := ⟨_, rfl⟩
  rw [← hy] at hpf hand
  rw [← hz] at hmeet hand
  rw [← hoi] at hand
  clear hy hz hoi hres
  refine Pure.intro (want := [boolD res]) T_ok follows Tryz.func91 rfl (by kernel_rfl) (rs := [.tmp 5]) rfl (by kernel_rfl) ?_
  generalize hP : Tryz.prog = P
  have hT : T.ok P := hP ▸ T_ok
  have hm : P.follows .mixedOrders = true := hP ▸ follows
  unfold Tryz.f91
  dsimp only
  cbv
  refine ReqP.mk (by simp [IE.den]; omega) (fun _ => ?_)
  refine LetOP.mk (fun hn => ?_) (fun y2 hy2 => ?_)
  · exfalso
    replace hn : PF p = none := hn
    rw [hpf] at hn
    cases hn
  replace hy2 : PF p = some y2 := hy2
  rw [hpf] at hy2
  cases hy2
  cbv
  refine .mk (.cons (.eq (.bool ?_)) .nil) rfl
  show (binDen .and .u64 (f (Int.toNat (i : Int))) y == 0) = res
  rw [Int.toNat_natCast, hand, hmeet]
  by_cases e : z = 0 <;> simp [e]
set_option maxRecDepth 100000 in
set_option maxHeartbeats 4000000 in
theorem able_pureF (r : Rid) (hr : r.ok) (o : Nat → Nat → Bool) (g : List Nat) (hg : g.length ≤ 16 ∧ ∀ i ∈ g, i < 16) : PureF Tryz.prog 81 [.dp r.c 0, .dpa .u64 16 (optF o), .slm 1 none natC g] (.slm 1 (some (.var (ableL r o g).isEmpty)) intC (ableL r o g)) := by
  have hA : ∀ p ∈ r.order, Pure Tryz.prog 61 [.slm 1 none natC g, .fn (.func 91) [] [.dp [.dpa .u64 16 (optF o)] 0, .dp [.dp r.c 0] 0, .dp [i64 p] 0]] (boolD (!ableB r o g p)) := fun p hp => by
    have := Has3_pure (fun n : Nat => .nat n) g none 91 [.dpa .u64 16 (optF o)] [.dp r.c 0] [i64 p] (fun i => !meetB (o i) (r.own p)) (fun i hi => able1_pure r hr o i (hg.2 i hi) p hp) (by omega)
    have e : (g.any fun i => !meetB (o i) (r.own p)) = !ableB r o g p := by
      unfold ableB
      rw [List.not_all_eq_any_not]
    rw [e] at this
    exact this
  have hol := hr.ord
  obtain ⟨ab, hab⟩ : ∃ f, f = ableB r o g := ⟨_, rfl⟩
  obtain ⟨f, hf⟩ : ∃ f, f = optF o := ⟨_, rfl⟩
  obtain ⟨res, hres⟩ : ∃ l, l = ableL r o g := ⟨_, rfl⟩
  rw [← hres]
  unfold ableL at hres
  rw [← hab] at hA hres
  rw [← hf] at hA ⊢
  obtain ⟨S, nbS, gs, nbG, PF, nP, order, nbO, own⟩ := r
  simp only at hA hol hres
  clear hr hab hf
  obtain ⟨rE, hrE⟩ : ∃ b, b = res.isEmpty := ⟨_, rfl⟩
  rw [← hrE]
  obtain ⟨n, hn⟩ : ∃ n : Nat, n = order.length := ⟨_, rfl⟩
  refine PureF.intro (want := [.slm 1 (some (.var rE)) intC res]) T_ok follows Tryz.func81 rfl (by kernel_rfl) (rs := [.tmp 6]) rfl (by kernel_rfl) ?_
  generalize hP : Tryz.prog = P at *
  have hT : T.ok P := hP ▸ T_ok
  have hm : P.follows .mixedOrders = true := hP ▸ follows
  unfold Tryz.f81
  dsimp only
  cbv
  refine CodeP.virt 6 3 1 rfl ?_
  refine CodeP.loopm hT hm (X := Nat × Nat × List Int) (fun x => [(14, .int .i64 (.nat x.1)), (6, .osl 1 2 (x.2.1 + 1) (.cmp .eql (.nat x.2.1) (.lit 0)) (.lit 0) (.nat x.2.1))]) (fun x => [.cells [.dp [.slm 4 nbS SeenD.c S, .slm 1 nbG groupC gs, .mapd .i64 .u64 PF nP, .slm 1 nbO intC order] 0], .cells [.dpa .u64 16 f], .row 3 1 (x.2.1 + 1) (.map intC x.2.2)]) (fun x => x.1 ≤ n ∧ x.2.2.length = x.2.1 ∧ x.2.2 = (order.take x.1).filter ab) (fun x => n - x.1) (0, 0, []) ⟨by simp, rfl, by simp⟩ (fun _ => by simp) ⟨?_, ?_, rfl⟩ ?_
  · (cbv; (repeat' (first | exact SnD.refl _ | exact trivial | exact SnD.nat0 | refine And.intro ?_ ?_)))
    exact .eq (.osl rfl rfl rfl)
  · exact ⟨.refl _, .refl _, .row rfl, trivial⟩
  intro ⟨k, c, acc⟩ ⟨hk, hc, hacc⟩
  simp only at hk hc hacc
  have hck : c ≤ k := by
    rw [← hc, hacc]
    have := List.length_filter_le ab (order.take k)
    rw [List.length_take] at this
    omega
  cbv
  refine SplitP.mk (fun hs => ?_) (fun hs => ?_)
  rotate_left
  · have hkn : order.length ≤ k := by
      have h5 : decide ((k : Int) < (order.length : Int)) = false := hs
      have := of_decide_eq_false h5
      omega
    clear hs
    have e1 : res = acc := by rw [hres, hacc, List.take_of_length_le (by omega)]
    refine .mk [2] rfl (fun x hx => by
      rw [List.mem_singleton] at hx
      subst hx
      refine ⟨_, _, _, _, rfl, fun e he => ?_⟩
      simp only [RE.den, List.mem_map] at he
      obtain ⟨a, _, rfl⟩ := he
      rfl) (.cons (.slm rfl (.inl ⟨_, _, rfl, ?_⟩) rfl ?_ ?_) .nil) rfl
    · show acc.map intC = res.map intC
      rw [e1]
    · show (c : Int) = (res.length : Int)
      rw [e1, hc]
    · intro e he
      cases he
      show rE = ((c : Int) == 0)
      rw [hrE, e1]
      cases acc with
      | nil => simp at hc; subst hc; rfl
      | cons a t =>
        simp only [List.length_cons] at hc
        exact (beq_eq_false_iff_ne.2 (by omega)).symm
  have hkn : k < order.length := by
    have h5 : decide ((k : Int) < (order.length : Int)) = true := hs
    have := of_decide_eq_true h5
    omega
  clear hs
  refine ElemP.mk (by show (0 : Int) ≤ (k : Int) ∧ (k : Int) < (order.length : Int); omega) (fun p hp => ?_)
  replace hp : order[k]? = some p := hp
  have hAp := hA p (List.mem_of_getElem? hp)
  have hacc2 : (order.take (k + 1)).filter ab = acc ++ if ab p = true then [p] else [] := by
    rw [List.take_add_one, hp, List.filter_append, ← hacc]
    cases h : ab p <;> simp [h]
  obtain ⟨pN, hpN⟩ : ∃ b, b = ab p := ⟨_, rfl⟩
  rw [← hpN] at hAp hacc2
  clear hpN
  cbv
  refine CallP.lend _ _ hAp (.cons (.eq (.refl _)) (.cons (.fns .nil (.cons (.dp rfl rfl rfl) (.cons (.dp rfl rfl rfl) (.cons (.dp rfl rfl rfl) .nil)))) .nil)) rfl rfl ?_
  cbv
  refine SplitP.mk (fun h5 => ?_) (fun h5 => ?_)
  · replace h5 : pN = true := by simpa using (show (!(!pN)) = true from h5)
    refine ReqP.mk (app_ok hc (by omega) (fun _ => rfl) rfl (by decide)) (fun _ => ?_)
    refine BackP.intro (k + 1, c + 1, acc ++ [p]) ⟨by simp only; omega, by simp only; rw [List.length_append, hc]; rfl, by simp only; rw [hacc2, h5]; rfl⟩ (by show n - (k + 1) < n - k; omega) ⟨?_, ?_, rfl⟩
    · refine ⟨.inc (by omega), osl_step c, ?_⟩
      (cbv; (repeat' (first | exact SnD.refl _ | exact trivial | exact SnD.nat0 | refine And.intro ?_ ?_)))
    · exact ⟨.refl _, .refl _, row_app p rfl (.cons (.refl _) .nil), trivial⟩
  · replace h5 : pN = false := by simpa using (show (!(!pN)) = false from h5)
    refine BackP.intro (k + 1, c, acc) ⟨by simp only; omega, hc, by simp only; rw [hacc2, h5]; simp⟩ (by show n - (k + 1) < n - k; omega) ⟨?_, ⟨.refl _, .refl _, .refl _, trivial⟩, rfl⟩
    (cbv; (repeat' (first | exact SnD.refl _ | exact trivial | exact SnD.nat0 | refine And.intro ?_ ?_)))
    exact .inc (by omega)
end Go.Proofs.YtaopkjgldokahaaGreatDoor
namespace Go.Proofs.YtaopkjgldokahaaGreatDoor
open Go.RowKit

/-! bits.TrailingZeros64: the least copy of a set. -/
set_option maxRecDepth 100000 in
set_option maxHeartbeats 4000000 in
theorem tz_pure (a : Nat → Bool) (c : Nat) (h : lowB a c) : Pure Tryz.prog 98 [.int .u64 (.var (enc a))] (.int .i64 (.nat c)) := by
  have hlow := low_bit h
  have hidx := tz_idx h.1
  have hbr := bruijn_ok ⟨c, h.1⟩
  simp only at hbr
  have hc := h.1
  have hne : enc a ≠ 0 := fun e => by
    have := (enc_eq0 a).1 e c hc
    rw [h.2.1] at this
    cases this
  obtain ⟨x, hx⟩ : ∃ x, x = enc a := ⟨_, rfl⟩
  rw [← hx] at hlow hne ⊢
  clear hx h
  obtain ⟨tb, htb⟩ : ∃ t, t = bruijn := ⟨_, rfl⟩
  rw [← htb] at hbr
  obtain ⟨ix, hix⟩ : ∃ n, n = 2 ^ c * 285870213051353865 % 18446744073709551616 / 288230376151711744 := ⟨_, rfl⟩
  rw [← hix] at hbr hidx
  clear hix
  refine Pure.intro (want := [.int .i64 (.nat c)]) T_ok follows Tryz.func98 rfl (by kernel_rfl) (rs := [.tmp 2]) rfl (by kernel_rfl) ?_
  generalize hP : Tryz.prog = P
  have hT : T.ok P := hP ▸ T_ok
  have hm : P.follows .mixedOrders = true := hP ▸ follows
  unfold Tryz.f98
  dsimp only
  cbv
  refine SplitP.mk (fun hs => ?_) (fun hs => ?_) <;> simp only [BE.eql_t, BE.eql_f, IE.var_d, IE.lit_d] at hs
  · exact absurd hs hne
  have e : IE.den (.bin .shr .u64 (.bin .mul .u64 (.bin .and .u64 (.var x) (.bin .sub .u64 (.lit 0) (.var x))) (.lit 285870213051353865)) (.lit 58)) = (ix : Int) := by
    show binDen .shr .u64 (binDen .mul .u64 (binDen .and .u64 x (binDen .sub .u64 0 x)) 285870213051353865) 58 = _
    rw [hlow]
    exact hidx
  refine ReqP.mk (by rw [e]; have := hbr.2; constructor <;> ((try simp only [ncast] at *); omega)) (fun _ => ?_)
  refine .mk (.cons (.eq (.int ?_)) .nil) rfl
  show IntKind.i64.wrap (bruijn (IE.den _).toNat) = _
  rw [e, Int.toNat_natCast, ← htb, hbr.1]
  exact w64 (by ((try simp only [ncast] at *); omega)) (by ((try simp only [ncast] at *); omega))
end Go.Proofs.YtaopkjgldokahaaGreatDoor
namespace Go.Proofs.YtaopkjgldokahaaGreatDoor

/-! Matching: what one attempt to place a sight does to the choice of copies (plain, no program in sight). -/
structure MS where
  T : Nat → Bool
  K : Nat → Bool
  ow : Nat → Nat
def bitsOf (S : Nat → Bool) : List Nat := (List.range 64).filter S
def owners (st : MS) : List Nat := (bitsOf st.K).map st.ow
theorem mem_bits {S : Nat → Bool} {c : Nat} : c ∈ bitsOf S ↔ c < 64 ∧ S c = true := by simp [bitsOf]
theorem bits_nodup (S : Nat → Bool) : (bitsOf S).Nodup := List.Nodup.sublist List.filter_sublist List.nodup_range
def addB (S : Nat → Bool) (c : Nat) : Nat → Bool := fun x => S x || x == c
def updN (f : Nat → Nat) (c i : Nat) : Nat → Nat := fun x => if x = c then i else f x
/-- what an attempt to place i comes to -/
structure RF (o : Nat → Nat → Bool) (i : Nat) (st st' : MS) : Prop where
  K : st'.K = st.K
  ow : st'.ow = st.ow
  mono : ∀ c, st.T c = true → st'.T c = true
  all : ∀ c, c < 64 → o i c = true → st'.T c = true
  shut : ∀ c, c < 64 → st'.T c = true → st.T c = false → st.K c = true ∧ ∀ d, d < 64 → o (st.ow c) d = true → st'.T d = true
structure RT (o : Nat → Nat → Bool) (i : Nat) (st st' : MS) : Prop where
  one : ∃ c0, c0 < 64 ∧ st.K c0 = false ∧ st'.K = addB st.K c0
  perm : (owners st').Perm (i :: owners st)
  keep : ∀ c, st.T c = true → st'.ow c = st.ow c
  mono : ∀ c, st.T c = true → st'.T c = true
  ok : ∀ c, c < 64 → st'.K c = true → o (st'.ow c) c = true
/-- the loop of an attempt -/
structure IL (o : Nat → Nat → Bool) (st0 st : MS) : Prop where
  K : st.K = st0.K
  ow : st.ow = st0.ow
  mono : ∀ c, st0.T c = true → st.T c = true
  shut : ∀ c, c < 64 → st.T c = true → st0.T c = false → st0.K c = true ∧ ∀ d, d < 64 → o (st0.ow c) d = true → st.T d = true
theorem IL.start (o : Nat → Nat → Bool) (st : MS) : IL o st st := ⟨rfl, rfl, fun _ h => h, fun c _ h1 h2 => by rw [h1] at h2; cases h2⟩
theorem IL.fail {o : Nat → Nat → Bool} {i : Nat} {st0 st : MS} (h : IL o st0 st) (hall : ∀ c, c < 64 → o i c = true → st.T c = true) : RF o i st0 st := ⟨h.K, h.ow, h.mono, hall, h.shut⟩
theorem IL.next {o : Nat → Nat → Bool} {st0 st st2 : MS} {c : Nat} (h : IL o st0 st) (hk : st.K c = true) (hr : RF o (st.ow c) ⟨addB st.T c, st.K, st.ow⟩ st2) : IL o st0 st2 := by
  refine ⟨hr.K.trans h.K, hr.ow.trans h.ow, fun d hd => hr.mono d (by simp [addB, h.mono d hd]), fun d hd h1 h2 => ?_⟩
  by_cases q : st.T d = true
  · obtain ⟨h3, h4⟩ := h.shut d hd q h2
    exact ⟨h3, fun x hx ho => hr.mono x (by simp [addB, h4 x hx ho])⟩
  · by_cases q2 : d = c
    · subst q2
      refine ⟨by rw [← h.K]; exact hk, fun x hx ho => hr.all x hx (by rw [h.ow]; exact ho)⟩
    · obtain ⟨h3, h4⟩ := hr.shut d hd h1 (by simp [addB, q, q2])
      exact ⟨by rw [← h.K]; exact h3, fun x hx ho => h4 x hx (by show o (st.ow d) x = true; rw [h.ow]; exact ho)⟩
theorem bits_add {S : Nat → Bool} {c : Nat} (hc : c < 64) (h : S c = false) : (bitsOf (addB S c)).Perm (c :: bitsOf S) := by
  refine (List.perm_ext_iff_of_nodup (bits_nodup _) ?_).2 fun x => ?_
  · rw [List.nodup_cons]
    exact ⟨fun q => (by rw [mem_bits, h] at q; cases q.2), bits_nodup _⟩
  · rw [mem_bits, List.mem_cons, mem_bits]
    simp only [addB, Bool.or_eq_true, beq_iff_eq]
    constructor
    · rintro ⟨h1, h2 | h2⟩
      · exact .inr ⟨h1, h2⟩
      · exact .inl h2
    · rintro (rfl | ⟨h1, h2⟩)
      · exact ⟨hc, .inr rfl⟩
      · exact ⟨h1, .inl h2⟩
theorem IL.free {o : Nat → Nat → Bool} {i c : Nat} {st0 st : MS} (h : IL o st0 st) (hv : ∀ c, c < 64 → st0.K c = true → o (st0.ow c) c = true) (hc : c < 64) (ho : o i c = true) (ht : st.T c = false) (hk : st.K c = false) :
    RT o i st0 ⟨addB st.T c, addB st.K c, updN st.ow c i⟩ := by
  have hk0 : st0.K c = false := by rw [← h.K]; exact hk
  refine ⟨⟨c, hc, hk0, by rw [h.K]⟩, ?_, fun d hd => ?_, fun d hd => by simp [addB, h.mono d hd], fun d hd hd2 => ?_⟩
  · unfold owners
    refine ((bits_add hc hk).map _).trans ?_
    rw [List.map_cons]
    refine (List.Perm.of_eq ?_)
    congr 1
    · simp [updN]
    · rw [h.K]
      refine List.map_congr_left fun x hx => ?_
      have : x ≠ c := fun e => by rw [mem_bits, e, hk0] at hx; cases hx.2
      simp [updN, this, h.ow]
  · have : d ≠ c := fun e => by have := h.mono d hd; rw [e, ht] at this; cases this
    simp [updN, this, h.ow]
  · simp only [addB, Bool.or_eq_true, beq_iff_eq] at hd2
    by_cases e : d = c
    · subst e
      simpa [updN] using ho
    · simp only [updN, if_neg e]
      rw [h.ow]
      exact hv d hd (by rw [← h.K]; exact hd2.resolve_right e)
theorem IL.moved {o : Nat → Nat → Bool} {i c : Nat} {st0 st st2 : MS} (h : IL o st0 st) (hc : c < 64) (ho : o i c = true) (ht : st.T c = false) (hk : st.K c = true) (hr : RT o (st.ow c) ⟨addB st.T c, st.K, st.ow⟩ st2) :
    RT o i st0 ⟨st2.T, addB st2.K c, updN st2.ow c i⟩ := by
  obtain ⟨c0, h1, h2, h3⟩ := hr.one
  have hk2 : st2.K c = true := by rw [h3]; simp [addB, hk]
  have ek : addB st2.K c = st2.K := by
    funext x
    unfold addB
    by_cases e : x = c
    · subst e; simp [hk2]
    · simp [e]
  have eow : st2.ow c = st.ow c := hr.keep c (by simp [addB])
  refine ⟨⟨c0, h1, by rw [← h.K]; exact h2, by rw [ek, h3]; simp only [h.K]⟩, ?_, fun d hd => ?_, fun d hd => hr.mono d (by simp [addB, h.mono d hd]), fun d hd hd2 => ?_⟩
  · show ((bitsOf (addB st2.K c)).map (updN st2.ow c i)).Perm _
    rw [ek]
    obtain ⟨l1, l2, hl⟩ := List.append_of_mem (mem_bits.2 ⟨hc, hk2⟩)
    have hnd := bits_nodup st2.K
    rw [hl, List.nodup_append] at hnd
    obtain ⟨n1, n2, n3⟩ := hnd
    rw [List.nodup_cons] at n2
    have hp := hr.perm
    unfold owners at hp
    rw [hl, List.map_append, List.map_cons, eow] at hp
    have hp2 := (List.perm_middle.symm.trans hp).cons_inv
    rw [hl, List.map_append, List.map_cons]
    have e1 : l1.map (updN st2.ow c i) = l1.map st2.ow := List.map_congr_left fun x hx => by
      have : x ≠ c := n3 x hx c (by simp)
      simp [updN, this]
    have e2 : l2.map (updN st2.ow c i) = l2.map st2.ow := List.map_congr_left fun x hx => by
      have : x ≠ c := fun e => n2.1 (e ▸ hx)
      simp [updN, this]
    rw [e1, e2]
    refine List.perm_middle.trans ?_
    have e3 : updN st2.ow c i c = i := by simp [updN]
    rw [e3]
    refine (hp2.cons i).trans (List.Perm.of_eq ?_)
    unfold owners
    simp only [h.K, h.ow]
  · have hdc : d ≠ c := fun e => by have := h.mono d hd; rw [e, ht] at this; cases this
    simp only [updN, if_neg hdc]
    rw [hr.keep d (by simp [addB, h.mono d hd])]
    simp only [h.ow]
  · rw [ek] at hd2
    by_cases e : d = c
    · subst e
      simpa [updN] using ho
    · simp only [updN, if_neg e]
      exact hr.ok d hd hd2
theorem nodup_len {l m : List Nat} (hl : l.Nodup) (h : ∀ x ∈ l, x ∈ m) : l.length ≤ m.length := by
  induction l generalizing m with
  | nil => simp
  | cons a l ih =>
    rw [List.nodup_cons] at hl
    have ha := h a (by simp)
    have := ih (m := m.erase a) hl.2 fun x hx => (List.mem_erase_of_ne (fun e : x = a => hl.1 (by rw [← e]; exact hx))).2 (h x (by simp [hx]))
    rw [List.length_erase_of_mem ha] at this
    have := List.length_pos_of_mem ha
    simp
    omega
/-- an attempt that fails, with nothing tried before: there is no choice at all -/
theorem RF.hall {o : Nat → Nat → Bool} {k : Nat} {st st' : MS} (h : RF o k st st') (hT : ∀ c, st.T c = false) (hp : (owners st).Perm (List.range k)) :
    ¬ ∃ f : Nat → Nat, (∀ j, j ≤ k → f j < 64 ∧ o j (f j) = true) ∧ ∀ a b, a ≤ k → b ≤ k → f a = f b → a = b := by
  rintro ⟨f, hf, hinj⟩
  have hK : ∀ c ∈ bitsOf st'.T, st.K c = true ∧ ∀ d, d < 64 → o (st.ow c) d = true → st'.T d = true := fun c hc => by
    obtain ⟨h1, h2⟩ := mem_bits.1 hc
    exact h.shut c h1 h2 (hT c)
  have hlt : ∀ c ∈ bitsOf st'.T, st.ow c < k := fun c hc => by
    have : st.ow c ∈ owners st := List.mem_map.2 ⟨c, mem_bits.2 ⟨(mem_bits.1 hc).1, (hK c hc).1⟩, rfl⟩
    exact List.mem_range.1 (hp.mem_iff.1 this)
  have hno : (owners st).Nodup := hp.nodup_iff.2 List.nodup_range
  have hsub : (bitsOf st'.T).Sublist (bitsOf st.K) := by
    have e : bitsOf st'.T = (bitsOf st.K).filter st'.T := by
      unfold bitsOf
      rw [List.filter_filter]
      refine List.filter_congr fun c hc => ?_
      cases q : st'.T c with
      | false => simp
      | true => simp [(hK c (mem_bits.2 ⟨List.mem_range.1 hc, q⟩)).1]
    rw [e]
    exact List.filter_sublist
  have hJ : ((bitsOf st'.T).map st.ow).Nodup := hno.sublist (hsub.map _)
  have hall : ∀ j ∈ k :: (bitsOf st'.T).map st.ow, j ≤ k ∧ f j ∈ bitsOf st'.T := fun j hj => by
    rcases List.mem_cons.1 hj with rfl | hj
    · obtain ⟨h1, h2⟩ := hf j (Nat.le_refl _)
      exact ⟨Nat.le_refl _, mem_bits.2 ⟨h1, h.all _ h1 h2⟩⟩
    · obtain ⟨c, hc, rfl⟩ := List.mem_map.1 hj
      have := hlt c hc
      obtain ⟨h1, h2⟩ := hf (st.ow c) (by omega)
      exact ⟨by omega, mem_bits.2 ⟨h1, (hK c hc).2 _ h1 h2⟩⟩
  have hnd : ((k :: (bitsOf st'.T).map st.ow).map f).Nodup := by
    have hnd0 : (k :: (bitsOf st'.T).map st.ow).Nodup := by
      rw [List.nodup_cons]
      refine ⟨fun q => ?_, hJ⟩
      obtain ⟨c, hc, e⟩ := List.mem_map.1 q
      have := hlt c hc
      omega
    refine List.pairwise_map.2 (List.Pairwise.imp_of_mem (fun {a b} ha hb hab => ?_) hnd0)
    exact fun e => hab (hinj a b (hall a ha).1 (hall b hb).1 e)
  have := nodup_len hnd fun x hx => by
    obtain ⟨j, hj, rfl⟩ := List.mem_map.1 hx
    exact (hall j hj).2
  simp at this
  omega
end Go.Proofs.YtaopkjgldokahaaGreatDoor
namespace Go.Proofs.YtaopkjgldokahaaGreatDoor
open Go.RowKit

/-! place: one attempt of the matching. -/
theorem CallP.mono {P : Program} {f : Nat} {args : List D} {H : List Bk} {K K' : D → List Bk → Prop} (h : CallP P f args H K) (hk : ∀ d H', K d H' → K' d H') : CallP P f args H K' :=
  ⟨h.here, fun B w E vs hh hv hw => (h.run B w E vs hh hv hw).mono fun _ _ ⟨v, E', d, H', q1, q2, q3, q4⟩ => ⟨v, E', d, H', q1, q2, q3, hk d H' q4⟩⟩
theorem filt_le {l : List Nat} {p q : Nat → Bool} (h : ∀ x ∈ l, q x = true → p x = true) : (l.filter q).length ≤ (l.filter p).length := by
  induction l with
  | nil => simp
  | cons a l ih =>
    have ih := ih fun x hx => h x (by simp [hx])
    have := h a (by simp)
    simp only [List.filter_cons]
    cases hq : q a with
    | false =>
      simp only [Bool.false_eq_true, if_false]
      split
      · simp; omega
      · exact ih
    | true =>
      rw [this hq]
      simp only [if_true, List.length_cons]
      omega
theorem filt_lt {l : List Nat} {p q : Nat → Bool} (h : ∀ x ∈ l, q x = true → p x = true) {y : Nat} (hy : y ∈ l) (hp : p y = true) (hq : q y = false) : (l.filter q).length < (l.filter p).length := by
  induction l with
  | nil => simp at hy
  | cons a l ih =>
    have h0 := fun x hx => h x (List.mem_cons_of_mem a hx)
    simp only [List.filter_cons]
    rcases List.mem_cons.1 hy with rfl | hy
    · rw [hp, hq]
      have := filt_le h0
      simp only [Bool.false_eq_true, if_false, if_true, List.length_cons]
      omega
    · have ih := ih h0 hy
      have := h a (by simp)
      cases hqa : q a with
      | false =>
        simp only [Bool.false_eq_true, if_false]
        split
        · simp; omega
        · exact ih
      | true =>
        rw [this hqa]
        simp only [if_true, List.length_cons]
        omega
/-- how many copies are untried -/
def untried (T : Nat → Bool) : Nat := ((List.range 64).filter fun c => !T c).length
theorem untried_lt {T T' : Nat → Bool} (h : ∀ c, T c = true → T' c = true) {c : Nat} (hc : c < 64) (h1 : T c = false) (h2 : T' c = true) : untried T' < untried T := by
  refine filt_lt (fun x _ hx => ?_) (List.mem_range.2 hc) (by simp [h1]) (by simp [h2])
  cases hT : T x with
  | false => rfl
  | true => rw [h x hT] at hx; cases hx
abbrev H55 (en : (Nat → Bool) → Int) (f : Nat → Int) (st : MS) : List Bk := [.cells [.dpa .u64 16 f], .arr .i64 64 (fun c => (st.ow c : Int)), .cells [.int .u64 (.var (en st.K))], .cells [.int .u64 (.var (en st.T))], .cells [.fn (.func 97) [] [.ptr 0 1 0, .ptr 3 1 0, .ptr 2 1 0, .ptr 4 1 0, .ptr 1 1 0]]]
def leftB (o : Nat → Nat → Bool) (i : Nat) (T : Nat → Bool) (c : Nat) : Bool := o i c && !T c
def freeB (a K : Nat → Bool) (c : Nat) : Bool := a c && !K c
set_option maxRecDepth 100000 in
set_option maxHeartbeats 4000000 in
theorem place_call {P : Program} (hP : Tryz.prog = P) (hT : T.ok P) (hm : P.follows .mixedOrders = true) (en : (Nat → Bool) → Int) (hen : en = enc) (o : Nat → Nat → Bool) (ho : ∀ i c, o i c = true → i < 16) (f : Nat → Int) (hf : ∀ i, f i = en (o i)) : ∀ (N : Nat) (st : MS) (i : Nat), untried st.T = N → i < 16 → (∀ c, c < 64 → st.K c = true → o (st.ow c) c = true) →
    CallP P 97 [.int .i64 (.nat i), .ptr 0 1 0, .ptr 3 1 0, .ptr 2 1 0, .ptr 4 1 0, .ptr 1 1 0] (H55 en f st) fun d H' => ∃ b st', d = .bool (.lit b) ∧ H' = H55 en f st' ∧ (b = true → RT o i st st') ∧ (b = false → RF o i st st') := by
  have htz : ∀ (a : Nat → Bool) (c : Nat), lowB a c → Pure P 98 [.int .u64 (.var (en a))] (.int .i64 (.nat c)) := fun a c h => by subst hen; exact hP ▸ tz_pure a c h
  have hand : ∀ a b, binDen .and .u64 (en a) (en b) = en (fun c => a c && b c) := fun a b => by rw [hen]; exact and_enc a b
  have hor : ∀ a b, binDen .or .u64 (en a) (en b) = en (fun c => a c || b c) := fun a b => by rw [hen]; exact or_enc a b
  have hnot : ∀ a b, binDen .andNot .u64 (en a) (en b) = en (fun c => a c && !b c) := fun a b => by rw [hen]; exact andNot_enc a b
  have hone : ∀ c : Nat, c < 64 → binDen .shl .u64 1 (c : Int) = en (oneB c) := fun c hc => by rw [hen]; exact shl_one hc
  have hbit : ∀ a (c : Nat), c < 64 → binDen .and .u64 (binDen .shr .u64 (en a) (c : Int)) 1 = if a c then 1 else 0 := fun a c hc => by rw [hen]; exact shr_enc a hc
  have hzero : ∀ a, en a = 0 ↔ ∀ c, c < 64 → a c = false := fun a => by rw [hen]; exact enc_eq0 a
  have hlow : ∀ a, en a ≠ 0 → ∃ c, lowB a c := fun a h => low_ex a (by rw [← hen]; exact h)
  clear hen
  intro N
  induction N using Nat.strongRecOn with
  | _ N ih =>
  intro st0 i hN hi hv
  refine CallP.post ?_
  refine (CallP.inl hT hm (hP ▸ Tryz.func97) rfl (by kernel_rfl) (rs := [.tmp 7]) rfl (by kernel_rfl) ?_)
  unfold Tryz.f97
  dsimp only
  cbv
  refine ReqP.mk (by simp [IE.den]; omega) (fun _ => ?_)
  refine CodeP.loopm hT hm (X := MS) (fun st => [(8, .int .u64 (.var (en (leftB o i st.T))))]) (fun st => H55 en f st) (fun st => IL o st0 st) (fun st => untried st.T) st0 (IL.start o st0) (fun _ => by simp) ⟨?_, HEnt.refl _, rfl⟩ ?_
  · refine ⟨.eq (.int ?_), ?_⟩
    · show binDen .andNot .u64 (f (Int.toNat (i : Int))) (en st0.T) = en (leftB o i st0.T)
      rw [Int.toNat_natCast, hf, hnot]
      rfl
    (cbv; (repeat' (first | exact SnD.refl _ | exact trivial | exact SnD.nat0 | refine And.intro ?_ ?_)))
  intro st hI
  obtain ⟨T1, K1, ow1⟩ := st
  obtain ⟨lf, hlf⟩ : ∃ a, a = leftB o i T1 := ⟨_, rfl⟩
  rw [← hlf]
  cbv
  refine SplitP.mk (fun hs => ?_) (fun hs => ?_) <;> simp only [BE.neq_t, BE.neq_f, IE.var_d, IE.lit_d] at hs
  rotate_left
  · refine ⟨.bool (.lit false), H55 en f ⟨T1, K1, ow1⟩, ⟨.eq (.refl _), HEnt.refl _, Nat.le_refl _, rfl, false, _, rfl, rfl, fun h => (by cases h), fun _ => hI.fail fun c hc hoc => ?_⟩⟩
    have := (hzero lf).1 hs c hc
    rw [hlf] at this
    simp only [leftB, hoc, Bool.true_and, Bool.not_eq_false'] at this
    exact this
  have hK1 : K1 = st0.K := hI.K
  have how1 : ow1 = st0.ow := hI.ow
  have lfo : ∀ c, lf c = true → o i c = true ∧ T1 c = false := fun c hc => by
    rw [hlf] at hc
    simpa [leftB] using hc
  refine SplitP.mk (fun h1 => ?_) (fun h1 => ?_)
  · replace h1 : en (fun c => lf c && !K1 c) = 0 := by
      have h2 : (binDen .andNot .u64 (en lf) (en K1) == 0) = true := h1
      rw [hnot] at h2
      simpa using h2
    obtain ⟨c, hc, hlc, hmin⟩ := hlow lf hs
    obtain ⟨hoc, htc⟩ := lfo c hlc
    have hkc : K1 c = true := by
      have := (hzero _).1 h1 c hc
      rw [hlc] at this
      simpa using this
    clear h1
    refine CallP.pure _ (htz lf c ⟨hc, hlc, hmin⟩) rfl ?_
    cbv
    refine ReqP.mk (by simp [IE.den]) (fun _ => ?_)
    refine ReqP.mk (by simp [IE.den]) (fun _ => ?_)
    have hb := hbit K1 c hc
    rw [if_pos hkc] at hb
    refine SplitP.mk (fun h2 => ?_) (fun h2 => ?_)
    · exfalso
      replace h2 : (binDen .and .u64 (binDen .shr .u64 (en K1) (c : Int)) 1 == 0) = true := h2
      rw [hb] at h2
      cases h2
    clear h2
    refine ReqP.mk (by simp [IE.den]; omega) (fun _ => ?_)
    refine CallP.pre [.int .i64 (.nat (ow1 c)), .ptr 0 1 0, .ptr 3 1 0, .ptr 2 1 0, .ptr 4 1 0, .ptr 1 1 0] (H55 en f ⟨addB T1 c, K1, ow1⟩) (.cons (.eq (.int ?_)) (SnDs.refl _)) ⟨.refl _, .refl _, .refl _, .cells (.cons (.eq (.int ?_)) .nil), .refl _, trivial⟩ rfl rfl ?_
    · show ((ow1 (Int.toNat (c : Int)) : Nat) : Int) = ((ow1 c : Nat) : Int)
      rw [Int.toNat_natCast]
    · show binDen .or .u64 (en T1) (binDen .shl .u64 1 (c : Int)) = en (addB T1 c)
      rw [hone c hc, hor]
      rfl
    have hoo : ∀ c', c' < 64 → K1 c' = true → o (ow1 c') c' = true := fun c' h3 h4 => by rw [how1]; exact hv c' h3 (by rw [← hK1]; exact h4)
    have ht0 : st0.T c = false := by
      cases h : st0.T c with
      | false => rfl
      | true => have := hI.mono c h; simp only at this; rw [htc] at this; cases this
    have hlt : untried (addB T1 c) < N := by
      rw [← hN]
      exact untried_lt (fun x hx => by have := hI.mono x hx; simp only at this; simp [addB, this]) hc ht0 (by simp [addB])
    refine CallP.mono (ih _ hlt ⟨addB T1 c, K1, ow1⟩ (ow1 c) rfl (ho _ _ (hoo c hc hkc)) hoo) ?_
    rintro d H' ⟨b, ⟨T2, K2, ow2⟩, rfl, rfl, hRT, hRF⟩
    cases b with
    | true =>
      cbv
      refine ReqP.mk (by simp [IE.den]; omega) (fun _ => ?_)
      refine ReqP.mk (by simp [IE.den]) (fun _ => ?_)
      refine ⟨.bool (.lit true), H55 en f ⟨T2, addB K2 c, updN ow2 c i⟩, ⟨.eq (.refl _), ⟨.refl _, .arrf fun j _ => ?_, .cells (.cons (.eq (.int ?_)) .nil), .refl _, .refl _, trivial⟩, Nat.le_refl _, rfl, true, _, rfl, rfl, fun _ => hI.moved hc hoc htc hkc (hRT rfl), fun h => by cases h⟩⟩
      · show updA (fun c => ((ow2 c : Nat) : Int)) (.nat c) (.nat i) j = ((updN ow2 c i j : Nat) : Int)
        unfold updA updN
        simp only [IE.den, Int.toNat_natCast]
        by_cases e : j = c <;> simp [e]
      · show binDen .or .u64 (en K2) (binDen .shl .u64 1 (c : Int)) = en (addB K2 c)
        rw [hone c hc, hor]
        rfl
    | false =>
      have hR := hRF rfl
      cbv
      refine ReqP.mk (by simp [IE.den]; omega) (fun _ => ?_)
      refine BackP.intro ⟨T2, K2, ow2⟩ (hI.next hkc hR) (untried_lt (fun x hx => hR.mono x (by replace hx : T1 x = true := hx; simp [addB, hx])) hc htc (hR.mono c (by simp [addB]))) ⟨?_, HEnt.refl _, rfl⟩
      refine ⟨.eq (.int ?_), ?_⟩
      · show binDen .andNot .u64 (f (Int.toNat (i : Int))) (en T2) = en (leftB o i T2)
        rw [Int.toNat_natCast, hf, hnot]
        rfl
      (cbv; (repeat' (first | exact SnD.refl _ | exact trivial | exact SnD.nat0 | refine And.intro ?_ ?_)))
  · have h1' : en (freeB lf K1) ≠ 0 := by
      have h2 : (binDen .andNot .u64 (en lf) (en K1) == 0) = false := h1
      rw [hnot] at h2
      exact fun e => by
        have h3 : (en (fun c => lf c && !K1 c) == 0) = true := by
          have e2 : en (fun c => lf c && !K1 c) = 0 := e
          rw [e2]; rfl
        rw [h3] at h2
        cases h2
    clear h1
    obtain ⟨c, hc, hfc, hmin⟩ := hlow _ h1'
    have hfc2 : lf c = true ∧ K1 c = false := by simpa [freeB] using hfc
    obtain ⟨hlc, hkc⟩ := hfc2
    obtain ⟨hoc, htc⟩ := lfo c hlc
    refine CallP.pure _ (Pure.args (.cons (.int ?_) .nil) (htz (freeB lf K1) c ⟨hc, hfc, hmin⟩)) rfl ?_
    · show binDen .andNot .u64 (en lf) (en K1) = en (freeB lf K1)
      rw [hnot]
      rfl
    cbv
    refine ReqP.mk (by simp [IE.den]) (fun _ => ?_)
    refine ReqP.mk (by simp [IE.den]) (fun _ => ?_)
    have hb := hbit K1 c hc
    rw [if_neg (by rw [hkc]; exact Bool.false_ne_true)] at hb
    refine SplitP.mk (fun h2 => ?_) (fun h2 => ?_)
    rotate_left
    · exfalso
      replace h2 : (binDen .and .u64 (binDen .shr .u64 (en K1) (c : Int)) 1 == 0) = false := h2
      rw [hb] at h2
      cases h2
    clear h2
    refine ReqP.mk (by simp [IE.den]; omega) (fun _ => ?_)
    refine ReqP.mk (by simp [IE.den]) (fun _ => ?_)
    have hoo : ∀ c', c' < 64 → st0.K c' = true → o (st0.ow c') c' = true := hv
    refine ⟨.bool (.lit true), H55 en f ⟨addB T1 c, addB K1 c, updN ow1 c i⟩, ⟨.eq (.refl _), ⟨.refl _, .arrf fun j _ => ?_, .cells (.cons (.eq (.int ?_)) .nil), .cells (.cons (.eq (.int ?_)) .nil), .refl _, trivial⟩, Nat.le_refl _, rfl, true, _, rfl, rfl, fun _ => hI.free hoo hc hoc htc hkc, fun h => by cases h⟩⟩
    · show updA (fun c => ((ow1 c : Nat) : Int)) (.nat c) (.nat i) j = ((updN ow1 c i j : Nat) : Int)
      unfold updA updN
      simp only [IE.den, Int.toNat_natCast]
      by_cases e : j = c <;> simp [e]
    · show binDen .or .u64 (en K1) (binDen .shl .u64 1 (c : Int)) = en (addB K1 c)
      rw [hone c hc, hor]
      rfl
    · show binDen .or .u64 (en T1) (binDen .shl .u64 1 (c : Int)) = en (addB T1 c)
      rw [hone c hc, hor]
      rfl
end Go.Proofs.YtaopkjgldokahaaGreatDoor
namespace Go.Proofs.YtaopkjgldokahaaGreatDoor
open Go.RowKit

/-! matched: can different copies be chosen? -/
def Mt (o : Nat → Nat → Bool) (n : Nat) : Prop := ∃ f : Nat → Nat, (∀ j, j < n → f j < 64 ∧ o j (f j) = true) ∧ ∀ a b, a < n → b < n → f a = f b → a = b
theorem perm_choice {o : Nat → Nat → Bool} {st : MS} {n : Nat} (hp : (owners st).Perm (List.range n)) (hok : ∀ c, c < 64 → st.K c = true → o (st.ow c) c = true) : Mt o n := by
  have hex : ∀ j, j < n → ∃ c, c < 64 ∧ st.K c = true ∧ st.ow c = j := fun j hj => by
    have : j ∈ owners st := hp.mem_iff.2 (List.mem_range.2 hj)
    obtain ⟨c, hc, e⟩ := List.mem_map.1 this
    obtain ⟨h1, h2⟩ := mem_bits.1 hc
    exact ⟨c, h1, h2, e⟩
  let f : Nat → Nat := fun j => if h : j < n then (hex j h).choose else 0
  have hf : ∀ j, j < n → f j < 64 ∧ st.K (f j) = true ∧ st.ow (f j) = j := fun j hj => by
    simp only [f, dif_pos hj]
    exact (hex j hj).choose_spec
  clear_value f
  refine ⟨f, fun j hj => ?_, fun a b ha hb e => ?_⟩
  · obtain ⟨h1, h2, h3⟩ := hf j hj
    exact ⟨h1, by have := hok _ h1 h2; rwa [h3] at this⟩
  · have h1 := (hf a ha).2.2
    have h2 := (hf b hb).2.2
    rw [← h1, ← h2, e]
set_option maxRecDepth 100000 in
set_option maxHeartbeats 4000000 in
theorem matched_pure (r : Rid) (hr : r.ok) (o : Nat → Nat → Bool) (ho : ∀ i c, o i c = true → i < 16) (res : Bool) (hres : res = true ↔ Mt o r.S.length) : Pure Tryz.prog 93 [.dp r.c 0, .dpa .u64 16 (optF o)] (boolD res) := by
  have hsn := hr.seen
  obtain ⟨en, hen⟩ : ∃ e, e = enc := ⟨_, rfl⟩
  obtain ⟨f, hf⟩ : ∃ f, f = optF o := ⟨_, rfl⟩
  have hfo : ∀ i, f i = en (o i) := fun i => by rw [hf, hen]
  have hz : en (fun _ => false) = 0 := by rw [hen]; exact (enc_eq0 _).2 fun _ _ => rfl
  have hcall := fun {P : Program} (hP : Tryz.prog = P) (hT : T.ok P) (hm : P.follows .mixedOrders = true) => place_call hP hT hm en hen o ho f hfo
  rw [← hf]
  obtain ⟨S, nbS, gs, nbG, PF, nP, order, nbO, own⟩ := r
  simp only at hsn hres
  clear hr hf hen
  obtain ⟨n, hn⟩ : ∃ n : Nat, n = S.length := ⟨_, rfl⟩
  refine Pure.intro (want := [boolD res]) T_ok follows Tryz.func93 rfl (by kernel_rfl) (rs := [.tmp 4]) rfl (by kernel_rfl) ?_
  generalize hP : Tryz.prog = P
  have hT : T.ok P := hP ▸ T_ok
  have hm : P.follows .mixedOrders = true := hP ▸ follows
  have hcall := hcall hP hT hm
  unfold Tryz.f93
  dsimp only
  cbv
  refine CodeP.loopm hT hm (X := Nat × MS) (fun x => [(15, .int .i64 (.nat x.1))]) (fun x => [.cells [.dpa .u64 16 f], .arr .i64 64 (fun c => (x.2.ow c : Int)), .cells [.int .u64 (.var (en x.2.K))]])
    (fun x => x.1 ≤ n ∧ (owners x.2).Perm (List.range x.1) ∧ ∀ c, c < 64 → x.2.K c = true → o (x.2.ow c) c = true) (fun x => n - x.1) (0, ⟨fun _ => false, fun _ => false, fun _ => 0⟩) ⟨by simp, by simp [owners, bitsOf], fun c _ h => by simp at h⟩ (fun _ => Nat.zero_le _) ⟨?_, ?_, rfl⟩ ?_
  · (cbv; (repeat' (first | exact SnD.refl _ | exact trivial | exact SnD.nat0 | refine And.intro ?_ ?_)))
  · refine ⟨.refl _, .arrf fun i _ => rfl, .cells (.cons (.eq (.int ?_)) .nil), trivial⟩
    exact hz.symm
  intro ⟨k, st⟩ ⟨hk, hp, hok⟩
  simp only at hk hp hok
  obtain ⟨T1, K1, ow1⟩ := st
  cbv
  refine SplitP.mk (fun hs => ?_) (fun hs => ?_)
  rotate_left
  · have hkn : S.length ≤ k := by
      have h5 : decide ((k : Int) < (S.length : Int)) = false := hs
      have := of_decide_eq_false h5
      omega
    clear hs
    have : res = true := hres.2 (perm_choice (by rw [show S.length = k by omega]; exact hp) hok)
    refine .mk (.cons (.eq (.bool ?_)) .nil) rfl
    rw [BE.lit_d, BE.var_d]
    rw [this]
  have hkn : k < S.length := by
    have h5 : decide ((k : Int) < (S.length : Int)) = true := hs
    have := of_decide_eq_true h5
    omega
  clear hs
  refine CallP.pre [.int .i64 (.nat k), .ptr 0 1 0, .ptr 3 1 0, .ptr 2 1 0, .ptr 4 1 0, .ptr 1 1 0] (H55 en f ⟨fun _ => false, K1, ow1⟩) (SnDs.refl _) ⟨.refl _, .refl _, .refl _, .cells (.cons (.eq (.int ?_)) .nil), .refl _, trivial⟩ rfl rfl ?_
  · exact hz.symm
  refine CallP.mono (hcall _ ⟨fun _ => false, K1, ow1⟩ k rfl (by omega) hok) ?_
  rintro d H' ⟨b, ⟨T2, K2, ow2⟩, rfl, rfl, hRT, hRF⟩
  cases b with
  | true =>
    have hR := hRT rfl
    cbv
    refine BackP.intro (k + 1, ⟨T2, K2, ow2⟩) ⟨by simp only; omega, ?_, hR.ok⟩ (by show n - (k + 1) < n - k; omega) ⟨?_, ⟨.refl _, .refl _, .refl _, trivial⟩, rfl⟩
    · refine hR.perm.trans ?_
      rw [List.range_succ]
      exact (hp.cons k).trans (List.perm_append_singleton k (List.range k)).symm
    · (cbv; (repeat' (first | exact SnD.refl _ | exact trivial | exact SnD.nat0 | refine And.intro ?_ ?_)))
      exact .inc (by omega)
  | false =>
    have hR := hRF rfl
    cbv
    have : res = false := by
      cases hb : res with
      | false => rfl
      | true =>
        exfalso
        obtain ⟨g, h1, h2⟩ := hres.1 hb
        exact hR.hall (fun _ => rfl) hp ⟨g, fun j hj => h1 j (by omega), fun a b ha hb => h2 a b (by omega) (by omega)⟩
    refine .mk (.cons (.eq (.bool ?_)) .nil) rfl
    rw [BE.lit_d, BE.var_d]
    rw [this]
end Go.Proofs.YtaopkjgldokahaaGreatDoor
namespace Go.Proofs.YtaopkjgldokahaaGreatDoor
open Go.RowKit

/-! The search, in plain words. -/
structure SolF (r : Rid) (o : Nat → Nat → Bool) (f : Nat → Nat) : Prop where
  opt : ∀ j, j < r.S.length → f j < 64 ∧ o j (f j) = true
  inj : ∀ a b, a < r.S.length → b < r.S.length → f a = f b → a = b
  grp : ∀ g ∈ r.gs, ∃ p, ∀ i ∈ g, r.own p (f i) = true
def Sol (r : Rid) (o : Nat → Nat → Bool) : Prop := ∃ f, SolF r o f
/-- the options of a group are cut to a set of copies -/
def resB (o : Nat → Nat → Bool) (g : List Nat) (t : Nat → Bool) (i c : Nat) : Bool := o i c && (!decide (i ∈ g) || t c)
def togB (r : Rid) (l : List Int) (c : Nat) : Bool := l.any fun p => r.own p c
def SubO (a b : Nat → Nat → Bool) : Prop := ∀ i c, a i c = true → b i c = true
theorem SubO.refl (a : Nat → Nat → Bool) : SubO a a := fun _ _ h => h
theorem SubO.trans {a b c : Nat → Nat → Bool} (h : SubO a b) (k : SubO b c) : SubO a c := fun i x hx => k i x (h i x hx)
theorem resB_sub (o : Nat → Nat → Bool) (g : List Nat) (t : Nat → Bool) : SubO (resB o g t) o := fun i c h => by
  unfold resB at h
  simp only [Bool.and_eq_true] at h
  exact h.1
theorem Sol.mono {r : Rid} {a b : Nat → Nat → Bool} (h : SubO a b) (hs : Sol r a) : Sol r b := by
  obtain ⟨f, hf⟩ := hs
  exact ⟨f, fun j hj => ⟨(hf.opt j hj).1, h _ _ (hf.opt j hj).2⟩, hf.inj, hf.grp⟩
theorem able_mono {r : Rid} {a b : Nat → Nat → Bool} (h : SubO a b) {g : List Nat} {p : Int} (hp : ableB r a g p = true) : ableB r b g p = true := by
  unfold ableB at hp ⊢
  rw [List.all_eq_true] at hp ⊢
  intro i hi
  obtain ⟨c, hc, h1, h2⟩ := meetB_iff.1 (hp i hi)
  exact meetB_iff.2 ⟨c, hc, h _ _ h1, h2⟩
theorem able_len_mono {r : Rid} {a b : Nat → Nat → Bool} (h : SubO a b) (g : List Nat) : (ableL r a g).length ≤ (ableL r b g).length := by
  unfold ableL
  have key : ∀ l : List Int, (l.filter (ableB r a g)).length ≤ (l.filter (ableB r b g)).length := fun l => by
    induction l with
    | nil => simp
    | cons p l ih =>
      simp only [List.filter_cons]
      cases hq : ableB r a g p with
      | false =>
        simp only [Bool.false_eq_true, if_false]
        split
        · simp; omega
        · exact ih
      | true =>
        rw [able_mono h hq]
        simp only [if_true, List.length_cons]
        omega
  exact key _
/-- who explains a group is able -/
theorem SolF.able {r : Rid} (hr : r.ok) {o : Nat → Nat → Bool} {f : Nat → Nat} (hf : SolF r o f) {g : List Nat} (hg : g ∈ r.gs) {p : Int} (hp : ∀ i ∈ g, r.own p (f i) = true) : p ∈ ableL r o g := by
  obtain ⟨h1, h2⟩ := hr.one g hg
  refine List.mem_filter.2 ⟨?_, ?_⟩
  · cases g with
    | nil => exact absurd rfl h1
    | cons i t => exact hr.mem p _ (hp i (by simp))
  · unfold ableB
    rw [List.all_eq_true]
    intro i hi
    obtain ⟨h3, h4⟩ := hf.opt i (h2 i hi)
    exact meetB_iff.2 ⟨f i, h3, h4, hp i hi⟩
/-- a group's options may be cut to those who are able -/
theorem Sol.cut {r : Rid} (hr : r.ok) {o : Nat → Nat → Bool} {g : List Nat} (hg : g ∈ r.gs) : Sol r o ↔ Sol r (resB o g (togB r (ableL r o g))) := by
  constructor
  · rintro ⟨f, hf⟩
    obtain ⟨p, hp⟩ := hf.grp g hg
    have hab := hf.able hr hg hp
    refine ⟨f, fun j hj => ⟨(hf.opt j hj).1, ?_⟩, hf.inj, hf.grp⟩
    unfold resB
    rw [(hf.opt j hj).2, Bool.true_and]
    by_cases h : j ∈ g
    · rw [decide_eq_true h, Bool.not_true, Bool.false_or]
      unfold togB
      rw [List.any_eq_true]
      exact ⟨p, hab, hp j h⟩
    · rw [decide_eq_false h]; rfl
  · exact Sol.mono (resB_sub _ _ _)
theorem Sol.none {r : Rid} (hr : r.ok) {o : Nat → Nat → Bool} {g : List Nat} (hg : g ∈ r.gs) (h : ableL r o g = []) : ¬ Sol r o := by
  rintro ⟨f, hf⟩
  obtain ⟨p, hp⟩ := hf.grp g hg
  have := hf.able hr hg hp
  rw [h] at this
  cases this
/-- it is some person who explains a group -/
theorem Sol.pick {r : Rid} (hr : r.ok) {o o1 : Nat → Nat → Bool} (hsub : SubO o o1) {g : List Nat} (hg : g ∈ r.gs) : Sol r o ↔ ∃ p ∈ ableL r o1 g, Sol r (resB o g (r.own p)) := by
  constructor
  · rintro ⟨f, hf⟩
    obtain ⟨p, hp⟩ := hf.grp g hg
    have hab := hf.able hr hg hp
    obtain ⟨h1, h2⟩ := List.mem_filter.1 hab
    refine ⟨p, List.mem_filter.2 ⟨h1, able_mono hsub h2⟩, f, fun j hj => ⟨(hf.opt j hj).1, ?_⟩, hf.inj, hf.grp⟩
    unfold resB
    rw [(hf.opt j hj).2, Bool.true_and]
    by_cases h : j ∈ g
    · rw [decide_eq_true h, hp j h]; rfl
    · rw [decide_eq_false h]; rfl
  · rintro ⟨p, _, hs⟩
    exact hs.mono (resB_sub _ _ _)
/-- where each group is of one person, matching is all -/
theorem Sol.match {r : Rid} {o : Nat → Nat → Bool} (h : ∀ g ∈ r.gs, ∃ p, ∀ i ∈ g, ∀ c, o i c = true → r.own p c = true) (hin : ∀ g ∈ r.gs, ∀ i ∈ g, i < r.S.length) : Sol r o ↔ Mt o r.S.length := by
  constructor
  · rintro ⟨f, hf⟩
    exact ⟨f, hf.opt, hf.inj⟩
  · rintro ⟨f, h1, h2⟩
    refine ⟨f, h1, h2, fun g hg => ?_⟩
    obtain ⟨p, hp⟩ := h g hg
    exact ⟨p, fun i hi => hp i hi _ (h1 i (hin g hg i hi)).2⟩
theorem Sol.toMt {r : Rid} {o : Nat → Nat → Bool} (h : Sol r o) : Mt o r.S.length := by
  obtain ⟨f, hf⟩ := h
  exact ⟨f, hf.opt, hf.inj⟩
/-- how much is open -/
def mu (r : Rid) (o : Nat → Nat → Bool) : Nat := (r.gs.map fun g => (ableL r o g).length).sum
theorem sum_le {α : Type} {f g : α → Nat} : ∀ {l : List α}, (∀ x ∈ l, f x ≤ g x) → (l.map f).sum ≤ (l.map g).sum
  | [], _ => by simp
  | a :: l, h => by
    have h1 := h a (by simp)
    have h2 := sum_le (l := l) fun x hx => h x (by simp [hx])
    simp only [List.map_cons, List.sum_cons]
    omega
theorem sum_lt {α : Type} {f g : α → Nat} : ∀ {l : List α}, (∀ x ∈ l, f x ≤ g x) → ∀ y ∈ l, f y < g y → (l.map f).sum < (l.map g).sum
  | [], _, y, hy, _ => by cases hy
  | a :: l, h, y, hy, hlt => by
    have h1 := h a (by simp)
    simp only [List.map_cons, List.sum_cons]
    rcases List.mem_cons.1 hy with rfl | hy
    · have h2 := sum_le (l := l) fun x hx => h x (by simp [hx])
      omega
    · have h2 := sum_lt (l := l) (fun x hx => h x (by simp [hx])) y hy hlt
      omega
theorem nodup_one {l : List Int} (h : l.Nodup) {p : Int} (hp : ∀ x ∈ l, x = p) : l.length ≤ 1 := by
  match l, h with
  | [], _ => simp
  | [a], _ => simp
  | a :: b :: t, h =>
    have h1 := hp a (by simp)
    have h2 := hp b (by simp)
    rw [List.nodup_cons] at h
    exact absurd (by rw [h1, h2]; simp) h.1
theorem able_one {r : Rid} (hr : r.ok) {o : Nat → Nat → Bool} {g : List Nat} (hg : g ∈ r.gs) {p : Int} : (ableL r (resB o g (r.own p)) g).length ≤ 1 := by
  refine nodup_one (p := p) (hr.nodup.sublist List.filter_sublist) fun q hq => ?_
  obtain ⟨_, h2⟩ := List.mem_filter.1 hq
  obtain ⟨h3, _⟩ := hr.one g hg
  unfold ableB at h2
  rw [List.all_eq_true] at h2
  cases g with
  | nil => exact absurd rfl h3
  | cons i t =>
    obtain ⟨c, _, h4, h5⟩ := meetB_iff.1 (h2 i (by simp))
    unfold resB at h4
    simp only [Bool.and_eq_true, Bool.or_eq_true, Bool.not_eq_true', decide_eq_false_iff_not] at h4
    rcases h4.2 with q | q
    · exact absurd (by simp) q
    · exact hr.uniq _ _ c h5 q
theorem mu_lt {r : Rid} (hr : r.ok) {o0 o1 o : Nat → Nat → Bool} (h1 : SubO o1 o0) (h2 : SubO o o1) {g : List Nat} (hg : g ∈ r.gs) (hl : 2 ≤ (ableL r o1 g).length) (p : Int) : mu r (resB o g (r.own p)) < mu r o0 := by
  have hs : SubO (resB o g (r.own p)) o0 := (resB_sub _ _ _).trans (h2.trans h1)
  refine sum_lt (fun x _ => able_len_mono hs x) g hg ?_
  have := able_one hr (o := o) hg (p := p)
  have := able_len_mono (r := r) h1 g
  omega
/-- the loop over the groups: what is known behind some of them -/
structure GL (r : Rid) (o0 : Nat → Nat → Bool) (k : Nat) (o : Nat → Nat → Bool) (b : Bool) (G : List Nat) (Ps : List Int) : Prop where
  sub : SubO o o0
  sol : Sol r o0 ↔ Sol r o
  one : b = true → ∀ j g, j < k → r.gs[j]? = some g → ∃ p, ∀ i ∈ g, ∀ c, o i c = true → r.own p c = true
  pick : b = false → G ∈ r.gs ∧ ∃ o1, SubO o1 o0 ∧ SubO o o1 ∧ Ps = ableL r o1 G ∧ 2 ≤ Ps.length
theorem GL.start (r : Rid) (o : Nat → Nat → Bool) : GL r o 0 o true [] [] := ⟨SubO.refl o, Iff.rfl, fun _ j g h => by omega, fun h => by cases h⟩
theorem GL.step {r : Rid} (hr : r.ok) {o0 o : Nat → Nat → Bool} {k : Nat} {b : Bool} {G : List Nat} {Ps : List Int} (h : GL r o0 k o b G Ps) {g : List Nat} (hg : r.gs[k]? = some g) {l : List Int} (hl : l = ableL r o g) :
    (l = [] → ¬ Sol r o0) ∧ (2 ≤ l.length → GL r o0 (k + 1) (resB o g (togB r l)) false g l) ∧ (b = false → GL r o0 (k + 1) (resB o g (togB r l)) b G Ps) ∧ (l.length = 1 → GL r o0 (k + 1) (resB o g (togB r l)) b G Ps) := by
  have hgm : g ∈ r.gs := List.mem_of_getElem? hg
  have hs := resB_sub o g (togB r l)
  have hsol : Sol r o0 ↔ Sol r (resB o g (togB r l)) := by rw [hl]; exact h.sol.trans (Sol.cut hr hgm)
  have hpick : b = false → G ∈ r.gs ∧ ∃ o1, SubO o1 o0 ∧ SubO (resB o g (togB r l)) o1 ∧ Ps = ableL r o1 G ∧ 2 ≤ Ps.length := fun hb => by
    obtain ⟨h1, o1, h2, h3, h4⟩ := h.pick hb
    exact ⟨h1, o1, h2, hs.trans h3, h4⟩
  refine ⟨fun e => ?_, fun h2 => ?_, fun hb => ?_, fun h1 => ?_⟩
  · rw [h.sol]
    exact Sol.none hr hgm (by rw [← hl, e])
  · exact ⟨hs.trans h.sub, hsol, fun h => by (cases h), fun _ => ⟨hgm, o, h.sub, hs, hl, h2⟩⟩
  · exact ⟨hs.trans h.sub, hsol, fun h => (by rw [hb] at h; cases h), hpick⟩
  · refine ⟨hs.trans h.sub, hsol, fun hb j g2 hj hg2 => ?_, hpick⟩
    rcases Nat.lt_or_ge j k with q | q
    · obtain ⟨p, hp⟩ := h.one hb j g2 q hg2
      exact ⟨p, fun i hi c hc => hp i hi c (hs i c hc)⟩
    · rw [show j = k by omega, hg] at hg2
      cases hg2
      obtain ⟨p, hp⟩ : ∃ p, l = [p] := by
        match l, h1 with
        | [p], _ => exact ⟨p, rfl⟩
      refine ⟨p, fun i hi c hc => ?_⟩
      unfold resB togB at hc
      rw [hp] at hc
      simp only [Bool.and_eq_true, Bool.or_eq_true, Bool.not_eq_true', decide_eq_false_iff_not, List.any_cons, List.any_nil, Bool.or_false] at hc
      exact hc.2.resolve_left fun q => q hi
/-- behind all groups -/
theorem GL.done {r : Rid} (hr : r.ok) {o0 o : Nat → Nat → Bool} {G : List Nat} {Ps : List Int} (h : GL r o0 r.gs.length o true G Ps) : Sol r o0 ↔ Mt o r.S.length := by
  refine h.sol.trans (Sol.match (fun g hg => ?_) fun g hg => (hr.one g hg).2)
  obtain ⟨j, hj⟩ := List.getElem?_of_mem hg
  exact h.one rfl j g (List.getElem?_eq_some_iff.1 hj).1 hj
theorem GL.open_ {r : Rid} (hr : r.ok) {o0 o : Nat → Nat → Bool} {k : Nat} {G : List Nat} {Ps : List Int} (h : GL r o0 k o false G Ps) : Sol r o0 ↔ ∃ p ∈ Ps, Sol r (resB o G (r.own p)) := by
  obtain ⟨h1, o1, h2, h3, h4, _⟩ := h.pick rfl
  rw [h4]
  exact h.sol.trans (Sol.pick hr h3 h1)
theorem GL.less {r : Rid} (hr : r.ok) {o0 o : Nat → Nat → Bool} {k : Nat} {G : List Nat} {Ps : List Int} (h : GL r o0 k o false G Ps) (p : Int) : mu r (resB o G (r.own p)) < mu r o0 := by
  obtain ⟨h1, o1, h2, h3, h4, h5⟩ := h.pick rfl
  exact mu_lt hr h2 h3 h1 (by rw [← h4]; exact h5) p
end Go.Proofs.YtaopkjgldokahaaGreatDoor
namespace Go.Proofs.YtaopkjgldokahaaGreatDoor
open Go.RowKit

/-! soluble: the search, walked. -/
abbrev RC (nbS : Option BE) (S : List SeenD) (nbG : Option BE) (gs : List (List Nat)) (PF : Int → Option Int) (nP : IE) (nbO : Option BE) (order : List Int) : List D := [.slm 4 nbS SeenD.c S, .slm 1 nbG groupC gs, .mapd .i64 .u64 PF nP, .slm 1 nbO intC order]
theorem bool_of (p : Prop) : ∃ b : Bool, b = true ↔ p := by
  by_cases h : p
  · exact ⟨true, by simp [h]⟩
  · exact ⟨false, by simp [h]⟩
theorem res_step {o : Nat → Nat → Bool} {g : List Nat} {t : Nat → Bool} {k i : Nat} (hi : g[k]? = some i) (j c : Nat) : resB o (g.take (k + 1)) t j c = if j = i then (resB o (g.take k) t j c && t c) else resB o (g.take k) t j c := by
  unfold resB
  rw [List.take_add_one, hi]
  simp only [Option.toList_some, List.mem_append, List.mem_singleton]
  by_cases h : j = i
  · subst h
    simp only [or_true, decide_true, Bool.not_true, Bool.false_or, if_true]
    cases o j c <;> cases t c <;> simp
  · simp [h]
theorem res_zero (o : Nat → Nat → Bool) (g : List Nat) (t : Nat → Bool) : resB o (g.take 0) t = o := by
  funext i c
  simp [resB]
/-- what a store of a cut option comes to -/
theorem cut_store {en : (Nat → Bool) → Int} (hand : ∀ a b, binDen .and .u64 (en a) (en b) = en (fun c => a c && b c)) {o o2 o3 : Nat → Nat → Bool} {g : List Nat} {t : Nat → Bool} {k i : Nat} (hi : g[k]? = some i) (h2 : o2 = resB o (g.take k) t) (h3 : o3 = resB o (g.take (k + 1)) t) {e : IE} (he : e.den = en t) (j : Nat) :
    updA (fun i => en (o2 i)) (.nat i) (.bin .and .u64 (.at (fun i => en (o2 i)) (.nat i)) e) j = en (o3 j) := by
  have e1 : (IE.nat i).den.toNat = i := by simp [IE.den]
  show (if j = (IE.nat i).den.toNat then binDen .and .u64 (en (o2 (IE.nat i).den.toNat)) e.den else en (o2 j)) = _
  rw [e1]
  by_cases q : j = i
  · rw [if_pos q, he, hand, h3, h2, q]
    congr 1
    funext c
    rw [res_step hi, if_pos rfl]
  · rw [if_neg q, h3, h2]
    congr 1
    funext c
    rw [res_step hi, if_neg q]
set_option maxRecDepth 100000 in
set_option maxHeartbeats 8000000 in
theorem solve_step (r : Rid) (hr : r.ok) (S : List SeenD) (nbS nbG nbO : Option BE) (gs : List (List Nat)) (PF : Int → Option Int) (nP : IE) (order : List Int) (hS : r.S = S) (hgs : r.gs = gs) (hord : r.order = order) (h1 : r.nbS = nbS) (h2 : r.nbG = nbG) (h3 : r.nbO = nbO) (h4 : r.PF = PF) (h5 : r.nP = nP)
    (en : (Nat → Bool) → Int) (hen : en = enc) (L : List D) (K : Nat)
    (ih : ∀ (o : Nat → Nat → Bool) (_ : ∀ i c, o i c = true → i < 16) (res : Bool), mu r o < K → (res = true ↔ Sol r o) → Pure Tryz.prog 92 [.arr .u64 16 (fun i => en (o i)), .dp [.dp (RC nbS S nbG gs PF nP nbO order) 0] 0, .dp L 0] (boolD res))
    (o0 : Nat → Nat → Bool) (ho0 : ∀ i c, o0 i c = true → i < 16) (res : Bool) (hmu : mu r o0 < K + 1) (hres : res = true ↔ Sol r o0) (f0 : Nat → Int) (hf0 : ∀ i, f0 i = en (o0 i)) :
    Pure Tryz.prog 92 [.arr .u64 16 f0, .dp [.dp (RC nbS S nbG gs PF nP nbO order) 0] 0, .dp [.fn (.func 92) [] [.dp [.dp (RC nbS S nbG gs PF nP nbO order) 0] 0, .dp L 0]] 0] (boolD res) := by
  have hrc : r.c = RC nbS S nbG gs PF nP nbO order := by rw [← hS, ← hgs, ← hord, ← h1, ← h2, ← h3, ← h4, ← h5]
  have hand : ∀ a b, binDen .and .u64 (en a) (en b) = en (fun c => a c && b c) := fun a b => by rw [hen]; exact and_enc a b
  have hor : ∀ a b, binDen .or .u64 (en a) (en b) = en (fun c => a c || b c) := fun a b => by rw [hen]; exact or_enc a b
  have hz : en (fun _ => false) = 0 := by rw [hen]; exact (enc_eq0 _).2 fun _ _ => rfl
  obtain ⟨aL, haL⟩ : ∃ f, f = ableL r := ⟨_, rfl⟩
  obtain ⟨aE, haE⟩ : ∃ f : (Nat → Nat → Bool) → List Nat → Bool, f = fun o g => (aL o g).isEmpty := ⟨_, rfl⟩
  have hA : ∀ o g, g ∈ gs → PureF Tryz.prog 81 [.dp (RC nbS S nbG gs PF nP nbO order) 0, .dpa .u64 16 (fun i => en (o i)), .slm 1 none natC g] (.slm 1 (some (.var (aE o g))) intC (aL o g)) := fun o g hg => by
    rw [← hrc, hen, haE, haL]
    exact able_pureF r hr o g (hr.grp g (by rw [hgs]; exact hg))
  have hM : ∀ (o : Nat → Nat → Bool) (_ : ∀ i c, o i c = true → i < 16) (res : Bool), (res = true ↔ Mt o S.length) → Pure Tryz.prog 93 [.dp (RC nbS S nbG gs PF nP nbO order) 0, .dpa .u64 16 (fun i => en (o i))] (boolD res) := fun o ho res hres => by
    rw [← hrc, hen]
    exact matched_pure r hr o ho res (by rw [hS]; exact hres)
  have hPF : ∀ p ∈ order, PF p = some (en (r.own p)) := fun p hp => by rw [← h4, hen]; exact hr.pf p (by rw [hord]; exact hp)
  have haLo : ∀ o g p, p ∈ aL o g → p ∈ order := fun o g p hp => by
    rw [haL] at hp
    rw [← hord]
    exact (List.mem_filter.1 hp).1
  have hol : ∀ o g, (aL o g).length ≤ 64 := fun o g => by
    rw [haL]
    have := List.length_filter_le (ableB r o g) r.order
    have := hr.ord
    unfold ableL
    omega
  have hgl : gs.length ≤ 16 := by rw [← hgs]; exact hr.gsl
  have hgr : ∀ g ∈ gs, g.length ≤ 16 ∧ ∀ i ∈ g, i < 16 := fun g hg => hr.grp g (by rw [hgs]; exact hg)
  obtain ⟨own, hown⟩ : ∃ f, f = r.own := ⟨_, rfl⟩
  rw [← hown] at hPF
  clear hrc
  obtain ⟨ng, hng⟩ : ∃ n : Nat, n = gs.length := ⟨_, rfl⟩
  refine Pure.intro (want := [boolD res]) T_ok follows Tryz.func92 rfl (by kernel_rfl) (rs := [.tmp 4]) rfl (by kernel_rfl) ?_
  generalize hP : Tryz.prog = P at *
  have hT : T.ok P := hP ▸ T_ok
  have hm : P.follows .mixedOrders = true := hP ▸ follows
  unfold Tryz.f92
  dsimp only
  cbv
  refine CodeP.loopm hT hm (X := Nat × (Nat → Nat → Bool) × Bool × List Nat × List Int) (fun x => [(25, .int .i64 (.nat x.1)), (5, .slm 1 none natC x.2.2.2.1), (6, .slm 1 (some (.var x.2.2.1)) intC x.2.2.2.2)])
    (fun x => [.arr .u64 16 (fun i => en (x.2.1 i))]) (fun x => x.1 ≤ ng ∧ GL r o0 x.1 x.2.1 x.2.2.1 x.2.2.2.1 x.2.2.2.2 ∧ ∀ i c, x.2.1 i c = true → i < 16) (fun x => ng - x.1) (0, o0, true, [], []) ⟨by simp, GL.start r o0, ho0⟩ (fun _ => Nat.zero_le _) ⟨?_, ?_, rfl⟩ ?_
  · refine ⟨.nat0, .eq (.nil0 rfl), .eq (.nilv rfl rfl), ?_⟩
    (cbv; (repeat' (first | exact SnD.refl _ | exact trivial | exact SnD.nat0 | refine And.intro ?_ ?_)))
  · exact ⟨.arrf fun i _ => hf0 i, trivial⟩
  intro ⟨k, o, b, G, Ps⟩ ⟨hk, hGL, ho⟩
  simp only at hk hGL ho
  cbv
  refine SplitP.mk (fun hs => ?_) (fun hs => ?_)
  · have hkn : k < gs.length := by
      have h5 : decide ((k : Int) < (gs.length : Int)) = true := hs
      have := of_decide_eq_true h5
      omega
    clear hs
    refine ElemP.mk (by show (0 : Int) ≤ (k : Int) ∧ (k : Int) < (gs.length : Int); omega) (fun g hg => ?_)
    replace hg : gs[k]? = some g := hg
    have hgm : g ∈ gs := List.mem_of_getElem? hg
    have hst := GL.step hr hGL (by rw [hgs]; exact hg) (l := aL o g) (by rw [haL])
    obtain ⟨hgr1, hgr2⟩ := hgr g hgm
    have hAg := hA o g hgm
    have hlo := haLo o g
    have hll := hol o g
    have hE : aE o g = (aL o g).isEmpty := by rw [haE]
    obtain ⟨l, hl⟩ : ∃ l, l = aL o g := ⟨_, rfl⟩
    obtain ⟨lE, hlE⟩ : ∃ l, l = aE o g := ⟨_, rfl⟩
    rw [← hl] at hst hAg hlo hll hE
    rw [← hlE] at hAg hE
    clear hl hlE
    cbv
    refine CallP.lendF _ _ hAg (.cons (.eq (.refl _)) (.cons (.arrp rfl rfl fun _ _ => rfl) (.cons (.eq (.refl _)) .nil))) rfl ?_
    cbv
    obtain ⟨nl, hnl⟩ : ∃ n : Nat, n = l.length := ⟨_, rfl⟩
    refine CodeP.loopc hT hm (X := Nat × (Nat → Bool)) (fun x => [(34, .int .i64 (.nat x.1)), (10, .int .u64 (.var (en x.2)))]) (fun x => x.1 ≤ nl ∧ x.2 = togB r (l.take x.1)) (fun x => nl - x.1) (0, fun _ => false) ⟨by simp, by funext c; simp [togB]⟩ (by simp) ?_ rfl ?_
    · refine ⟨.nat0, .eq (.int hz.symm), ?_⟩
      (cbv; (repeat' (first | exact SnD.refl _ | exact trivial | exact SnD.nat0 | refine And.intro ?_ ?_)))
    intro ⟨j, tg⟩ ⟨hj, htg⟩
    simp only at hj htg
    cbv
    refine SplitP.mk (fun hs => ?_) (fun hs => ?_)
    · have hkn : j < l.length := by
        have h5 : decide ((j : Int) < (l.length : Int)) = true := hs
        have := of_decide_eq_true h5
        omega
      clear hs
      refine ElemP.mk (by show (0 : Int) ≤ (j : Int) ∧ (j : Int) < (l.length : Int); omega) (fun p hp => ?_)
      replace hp : l[j]? = some p := hp
      have hpo := hPF p (hlo p (List.mem_of_getElem? hp))
      cbv
      refine LetOP.mk (fun hn => ?_) (fun y hy => ?_)
      · exfalso
        replace hn : PF p = none := hn
        rw [hpo] at hn
        cases hn
      replace hy : PF p = some y := hy
      rw [hpo] at hy
      cases hy
      cbv
      refine BackP.intro (j + 1, fun c => tg c || own p c) ⟨by simp only; omega, ?_⟩ (by show nl - (j + 1) < nl - j; omega) ⟨?_, HEnt.refl _, rfl⟩
      · funext c
        rw [htg, hown]
        unfold togB
        rw [List.take_add_one, hp, List.any_append]
        simp
      · refine ⟨.inc (by omega), .eq (.int (hor tg (own p))), ?_⟩
        (cbv; (repeat' (first | exact SnD.refl _ | exact trivial | exact SnD.nat0 | refine And.intro ?_ ?_)))
    have hkn : l.length ≤ j := by
      have h5 : decide ((j : Int) < (l.length : Int)) = false := hs
      have := of_decide_eq_false h5
      omega
    clear hs
    have htg2 : tg = togB r l := by rw [htg, List.take_of_length_le (by omega)]
    rw [← htg2] at hst
    clear htg htg2 hkn hj
    obtain ⟨ngr, hngr⟩ : ∃ n : Nat, n = g.length := ⟨_, rfl⟩
    refine CodeP.loopm hT hm (X := Nat × (Nat → Nat → Bool)) (fun x => [(49, .int .i64 (.nat x.1))]) (fun x => [.arr .u64 16 (fun i => en (x.2 i))]) (fun x => x.1 ≤ ngr ∧ x.2 = resB o (g.take x.1) tg) (fun x => ngr - x.1) (0, o) ⟨by simp, (res_zero o g tg).symm⟩ (fun _ => by simp) ⟨?_, ⟨.refl _, trivial⟩, rfl⟩ ?_
    · (cbv; (repeat' (first | exact SnD.refl _ | exact trivial | exact SnD.nat0 | refine And.intro ?_ ?_)))
    intro ⟨j, o2⟩ ⟨hj, ho2⟩
    simp only at hj ho2
    cbv
    refine SplitP.mk (fun hs => ?_) (fun hs => ?_)
    · have hkn : j < g.length := by
        have h5 : decide ((j : Int) < (g.length : Int)) = true := hs
        have := of_decide_eq_true h5
        omega
      clear hs
      refine ElemP.mk (by show (0 : Int) ≤ (j : Int) ∧ (j : Int) < (g.length : Int); omega) (fun i hi => ?_)
      replace hi : g[j]? = some i := hi
      have hi16 := hgr2 i (List.mem_of_getElem? hi)
      cbv
      refine ReqP.mk (by simp [IE.den]; omega) (fun _ => ?_)
      refine ReqP.mk (by simp [IE.den]; omega) (fun _ => ?_)
      refine BackP.intro (j + 1, resB o (g.take (j + 1)) tg) ⟨by simp only; omega, rfl⟩ (by show ngr - (j + 1) < ngr - j; omega) ⟨?_, ⟨.arrf fun x _ => cut_store hand hi ho2 rfl rfl x, trivial⟩, rfl⟩
      (cbv; (repeat' (first | exact SnD.refl _ | exact trivial | exact SnD.nat0 | refine And.intro ?_ ?_)))
      exact .inc (by omega)
    have hkn : g.length ≤ j := by
      have h5 : decide ((j : Int) < (g.length : Int)) = false := hs
      have := of_decide_eq_false h5
      omega
    clear hs
    have ho22 : o2 = resB o g tg := by rw [ho2, List.take_of_length_le (by omega)]
    clear ho2 hkn hj
    rw [← ho22] at hst
    have ho2' : ∀ i c, o2 i c = true → i < 16 := fun i c h => ho i c (by rw [ho22] at h; exact resB_sub _ _ _ _ _ h)
    clear ho22
    obtain ⟨st0, st2, stb, st1⟩ := hst
    have hno : ∀ {H : List Bk}, l = [] → RetP H [.bool (.lit false)] [.bool (.var res)] := fun h => by
      have : res = false := by
        cases hb : res with
        | false => rfl
        | true => exact absurd (hres.1 hb) (st0 h)
      refine .mk (.cons (.eq (.bool ?_)) .nil) rfl
      rw [BE.lit_d, BE.var_d]
      rw [this]
    refine SplitP.mk (fun hs1 => ?_) (fun hs1 => ?_)
    rotate_left
    · have hl1 : l.length = 1 := by
        have h4 : ((l.length : Int) != 1) = false := hs1
        simp at h4
        omega
      refine SplitP.mk (fun hs2 => ?_) (fun hs2 => ?_)
      · exfalso
        have h4 : ((l.length : Int) == 0) = true := hs2
        rw [hl1] at h4
        cases h4
      refine BackP.intro (k + 1, o2, b, G, Ps) ⟨by simp only; omega, st1 hl1, ho2'⟩ (by show ng - (k + 1) < ng - k; omega) ⟨?_, ⟨.refl _, trivial⟩, rfl⟩
      (cbv; (repeat' (first | exact SnD.refl _ | exact trivial | exact SnD.nat0 | refine And.intro ?_ ?_)))
      exact .inc (by omega)
    have hl1 : l.length ≠ 1 := fun e => by
      have h4 : ((l.length : Int) != 1) = true := hs1
      rw [e] at h4
      cases h4
    clear hs1
    refine SplitP.mk (fun hb => ?_) (fun hb => ?_)
    · refine SplitP.mk (fun hs2 => ?_) (fun hs2 => ?_)
      · have h4 : ((l.length : Int) == 0) = true := hs2
        exact hno (List.length_eq_zero_iff.1 (by simpa using h4))
      have hl0 : l.length ≠ 0 := fun e => by
        have h4 : ((l.length : Int) == 0) = false := hs2
        rw [e] at h4
        cases h4
      have hEf : lE = false := by rw [hE]; cases l with | nil => simp at hl0 | cons a t => rfl
      refine BackP.intro (k + 1, o2, false, g, l) ⟨by simp only; omega, st2 (by omega), ho2'⟩ (by show ng - (k + 1) < ng - k; omega) ⟨?_, ⟨.refl _, trivial⟩, rfl⟩
      refine ⟨.inc (by omega), .refl _, .eq (.slmb hEf rfl), ?_⟩
      (cbv; (repeat' (first | exact SnD.refl _ | exact trivial | exact SnD.nat0 | refine And.intro ?_ ?_)))
    · replace hb : b = false := hb
      refine SplitP.mk (fun hs2 => ?_) (fun hs2 => ?_)
      · refine SplitP.mk (fun hs3 => ?_) (fun hs3 => ?_)
        · have h4 : ((l.length : Int) == 0) = true := hs3
          exact hno (List.length_eq_zero_iff.1 (by simpa using h4))
        have hl0 : l.length ≠ 0 := fun e => by
          have h4 : ((l.length : Int) == 0) = false := hs3
          rw [e] at h4
          cases h4
        have hEf : lE = false := by rw [hE]; cases l with | nil => simp at hl0 | cons a t => rfl
        refine BackP.intro (k + 1, o2, false, g, l) ⟨by simp only; omega, st2 (by omega), ho2'⟩ (by show ng - (k + 1) < ng - k; omega) ⟨?_, ⟨.refl _, trivial⟩, rfl⟩
        refine ⟨.inc (by omega), .refl _, .eq (.slmb hEf rfl), ?_⟩
        (cbv; (repeat' (first | exact SnD.refl _ | exact trivial | exact SnD.nat0 | refine And.intro ?_ ?_)))
      · refine SplitP.mk (fun hs3 => ?_) (fun hs3 => ?_)
        · have h4 : ((l.length : Int) == 0) = true := hs3
          exact hno (List.length_eq_zero_iff.1 (by simpa using h4))
        refine BackP.intro (k + 1, o2, b, G, Ps) ⟨by simp only; omega, stb hb, ho2'⟩ (by show ng - (k + 1) < ng - k; omega) ⟨?_, ⟨.refl _, trivial⟩, rfl⟩
        (cbv; (repeat' (first | exact SnD.refl _ | exact trivial | exact SnD.nat0 | refine And.intro ?_ ?_)))
        exact .inc (by omega)
  · have hkn : gs.length ≤ k := by
      have h5 : decide ((k : Int) < (gs.length : Int)) = false := hs
      have := of_decide_eq_false h5
      omega
    clear hs
    have hkng : k = ng := by omega
    clear hkn hk
    obtain ⟨mt, hmt⟩ := bool_of (Mt o S.length)
    refine CallP.lend _ _ (hM o ho mt hmt) (.cons (.eq (.refl _)) (.cons (.arrp rfl rfl fun _ _ => rfl) .nil)) rfl rfl ?_
    cbv
    refine SplitP.mk (fun hs1 => ?_) (fun hs1 => ?_)
    · replace hs1 : mt = false := by simpa using (show (!mt) = true from hs1)
      have : res = false := by
        cases hb : res with
        | false => rfl
        | true =>
          have := hmt.2 (by rw [← hS]; exact (hGL.sol.1 (hres.1 hb)).toMt)
          rw [hs1] at this
          cases this
      refine .mk (.cons (.eq (.bool ?_)) .nil) rfl
      rw [BE.lit_d, BE.var_d]
      rw [this]
    replace hs1 : mt = true := by simpa using (show (!mt) = false from hs1)
    refine SplitP.mk (fun hb => ?_) (fun hb => ?_)
    · replace hb : b = true := hb
      have : res = true := by
        subst hb
        have hGL2 : GL r o0 r.gs.length o true G Ps := by rw [hgs, ← hng, ← hkng]; exact hGL
        exact hres.2 ((GL.done hr hGL2).2 (by rw [hS]; exact hmt.1 hs1))
      refine .mk (.cons (.eq (.bool ?_)) .nil) rfl
      rw [BE.lit_d, BE.var_d]
      rw [this]
    replace hb : b = false := hb
    subst hb
    have hopen := hres.trans (hGL.open_ hr)
    have hless := hGL.less hr
    obtain ⟨hGm, o1', _, _, hPs, _⟩ := hGL.pick rfl
    rw [hgs] at hGm
    obtain ⟨hGr1, hGr2⟩ := hgr G hGm
    have hPo : ∀ p ∈ Ps, p ∈ order := fun p hp => haLo o1' G p (by rw [haL, ← hPs]; exact hp)
    have hPl : Ps.length ≤ 64 := by
      have := hol o1' G
      rw [haL, ← hPs] at this
      exact this
    clear hs1 hmt hGL hPs
    rw [← hown] at hopen hless
    obtain ⟨np, hnp⟩ : ∃ n : Nat, n = Ps.length := ⟨_, rfl⟩
    refine CodeP.loopc hT hm (X := Nat) (fun j => [(87, .int .i64 (.nat j))]) (fun j => j ≤ np ∧ ∀ p ∈ Ps.take j, ¬ Sol r (resB o G (own p))) (fun j => np - j) 0 ⟨by simp, fun p h => by simp at h⟩ (by simp) ?_ rfl ?_
    · (cbv; (repeat' (first | exact SnD.refl _ | exact trivial | exact SnD.nat0 | refine And.intro ?_ ?_)))
    intro j ⟨hj, hq⟩
    cbv
    refine SplitP.mk (fun hs => ?_) (fun hs => ?_)
    rotate_left
    · have hkn : Ps.length ≤ j := by
        have h5 : decide ((j : Int) < (Ps.length : Int)) = false := hs
        have := of_decide_eq_false h5
        omega
      clear hs
      have : res = false := by
        cases hb : res with
        | false => rfl
        | true =>
          obtain ⟨p, hp, hsol⟩ := hopen.1 hb
          exact absurd hsol (hq p (by rw [List.take_of_length_le (by omega)]; exact hp))
      refine .mk (.cons (.eq (.bool ?_)) .nil) rfl
      rw [BE.lit_d, BE.var_d]
      rw [this]
    have hkn : j < Ps.length := by
      have h5 : decide ((j : Int) < (Ps.length : Int)) = true := hs
      have := of_decide_eq_true h5
      omega
    clear hs
    refine ElemP.mk (by show (0 : Int) ≤ (j : Int) ∧ (j : Int) < (Ps.length : Int); omega) (fun p hp => ?_)
    replace hp : Ps[j]? = some p := hp
    have hpm : p ∈ Ps := List.mem_of_getElem? hp
    have hpo := hPF p (hPo p hpm)
    cbv
    obtain ⟨ngr, hngr⟩ : ∃ n : Nat, n = G.length := ⟨_, rfl⟩
    refine CodeP.loopm hT hm (X := Nat × (Nat → Nat → Bool)) (fun x => [(94, .int .i64 (.nat x.1))]) (fun x => [.arr .u64 16 (fun i => en (o i)), .arr .u64 16 (fun i => en (x.2 i))]) (fun x => x.1 ≤ ngr ∧ x.2 = resB o (G.take x.1) (own p)) (fun x => ngr - x.1) (0, o) ⟨by simp, (res_zero o G (own p)).symm⟩ (fun _ => by simp) ⟨?_, ⟨.refl _, .refl _, trivial⟩, rfl⟩ ?_
    · (cbv; (repeat' (first | exact SnD.refl _ | exact trivial | exact SnD.nat0 | refine And.intro ?_ ?_)))
    intro ⟨i, o2⟩ ⟨hi0, ho2⟩
    simp only at hi0 ho2
    cbv
    refine SplitP.mk (fun hs => ?_) (fun hs => ?_)
    · have hkn : i < G.length := by
        have h5 : decide ((i : Int) < (G.length : Int)) = true := hs
        have := of_decide_eq_true h5
        omega
      clear hs
      refine ElemP.mk (by show (0 : Int) ≤ (i : Int) ∧ (i : Int) < (G.length : Int); omega) (fun x hx => ?_)
      replace hx : G[i]? = some x := hx
      have hx16 := hGr2 x (List.mem_of_getElem? hx)
      cbv
      refine ReqP.mk (by simp [IE.den]; omega) (fun _ => ?_)
      refine LetOP.mk (fun hn => ?_) (fun y hy => ?_)
      · exfalso
        replace hn : PF p = none := hn
        rw [hpo] at hn
        cases hn
      replace hy : PF p = some y := hy
      rw [hpo] at hy
      cases hy
      cbv
      refine ReqP.mk (by simp [IE.den]; omega) (fun _ => ?_)
      refine BackP.intro (i + 1, resB o (G.take (i + 1)) (own p)) ⟨by simp only; omega, rfl⟩ (by show ngr - (i + 1) < ngr - i; omega) ⟨?_, ⟨.refl _, .arrf fun z _ => cut_store hand hx ho2 rfl rfl z, trivial⟩, rfl⟩
      (cbv; (repeat' (first | exact SnD.refl _ | exact trivial | exact SnD.nat0 | refine And.intro ?_ ?_)))
      exact .inc (by omega)
    have hkn : G.length ≤ i := by
      have h5 : decide ((i : Int) < (G.length : Int)) = false := hs
      have := of_decide_eq_false h5
      omega
    clear hs
    have ho22 : o2 = resB o G (own p) := by rw [ho2, List.take_of_length_le (by omega)]
    clear ho2 hkn
    have hl2 := hless p
    rw [← ho22] at hl2
    obtain ⟨rp, hrp⟩ := bool_of (Sol r o2)
    refine CallP.pure _ (ih o2 (fun i c h => ho i c (by rw [ho22] at h; exact resB_sub _ _ _ _ _ h)) rp (by omega) hrp) rfl ?_
    cbv
    refine SplitP.mk (fun hs1 => ?_) (fun hs1 => ?_)
    · replace hs1 : rp = true := hs1
      have : res = true := hopen.2 ⟨p, hpm, by rw [← ho22]; exact hrp.1 hs1⟩
      refine .mk (.cons (.eq (.bool ?_)) .nil) rfl
      rw [BE.lit_d, BE.var_d]
      rw [this]
    · replace hs1 : rp = false := hs1
      refine BackP.intro (j + 1) ⟨by omega, fun q hq2 => ?_⟩ (by show np - (j + 1) < np - j; omega) ⟨?_, ⟨.refl _, trivial⟩, rfl⟩
      · rw [List.take_add_one, hp] at hq2
        rcases List.mem_append.1 hq2 with h | h
        · exact hq q h
        · simp at h
          subst h
          rw [← ho22]
          intro h
          have := hrp.2 h
          rw [hs1] at this
          cases this
      · (cbv; (repeat' (first | exact SnD.refl _ | exact trivial | exact SnD.nat0 | refine And.intro ?_ ?_)))
        exact .inc (by omega)
end Go.Proofs.YtaopkjgldokahaaGreatDoor
namespace Go.Proofs.YtaopkjgldokahaaGreatDoor
open Go.RowKit

/-! soluble: what it answers. -/
def Ck (c : List D) : Nat → List D
  | 0 => [.junk]
  | k + 1 => [.fn (.func 92) [] [.dp [.dp c 0] 0, .dp (Ck c k) 0]]
theorem Ck_succ (c : List D) (k : Nat) : Ck c (k + 1) = [.fn (.func 92) [] [.dp [.dp c 0] 0, .dp (Ck c k) 0]] := rfl
abbrev SolveAt (r : Rid) (c : List D) (k : Nat) : Prop := ∀ (o : Nat → Nat → Bool) (_ : ∀ i c, o i c = true → i < 16) (res : Bool), mu r o < k → (res = true ↔ Sol r o) → ∀ f0 : Nat → Int, (∀ i, f0 i = enc (o i)) → Pure Tryz.prog 92 [.arr .u64 16 f0, .dp [.dp c 0] 0, .dp (Ck c k) 0] (boolD res)
set_option maxRecDepth 100000 in
set_option maxHeartbeats 4000000 in
theorem solve_pure (r : Rid) (hr : r.ok) (k : Nat) : SolveAt r r.c k := by
  have hrc : r.c = RC r.nbS r.S r.nbG r.gs r.PF r.nP r.nbO r.order := rfl
  rw [hrc]
  induction k with
  | zero => intro o _ res h; exact absurd h (by omega)
  | succ k ih =>
    intro o ho res h hres f0 hf0
    rw [Ck_succ]
    exact solve_step r hr r.S r.nbS r.nbG r.nbO r.gs r.PF r.nP r.order rfl rfl rfl rfl rfl rfl rfl rfl enc rfl (Ck _ k) k
      (fun o' ho' res' h' hr' => ih o' ho' res' h' hr' _ fun _ => rfl) o ho res h hres f0 hf0
/-- the chain of the closure, from the cells in which it lies -/
theorem Ck_snd (c : List D) (hc : c.all (D.dataB 8) = true) (f : Nat → Int) : ∀ k, SnD [.cells [.dp c 0], .arr .u64 16 f, .cells [.fn (.func 92) [] [.ptr 0 1 0, .ptr 2 1 0]]] [] (.ptr 2 1 0) (.dp (Ck c k) 0)
  | 0 => .dpn rfl rfl rfl rfl fun i d d' h1 h2 => by
    cases i with
    | zero => simp [Ck] at h1 h2; subst h1; subst h2; exact .eq (.junk _)
    | succ i => simp at h1
  | k + 1 => .dpn rfl rfl rfl rfl fun i d d' h1 h2 => by
    cases i with
    | zero =>
      simp [Ck] at h1 h2
      subst h1; subst h2
      refine .fns .nil (.cons ?_ (.cons (Ck_snd c hc f k) .nil))
      exact .dpn rfl rfl rfl rfl fun i d d' h1 h2 => by
        cases i with
        | zero =>
          simp at h1 h2
          subst h1; subst h2
          exact .refl _
        | succ i => simp at h1
    | succ i => simp at h1
set_option maxRecDepth 100000 in
set_option maxHeartbeats 4000000 in
theorem soluble_pure (r : Rid) (hr : r.ok) (o : Nat → Nat → Bool) (ho : ∀ i c, o i c = true → i < 16) (res : Bool) (hres : res = true ↔ Sol r o) (f0 : Nat → Int) (hf0 : ∀ i, f0 i = enc (o i)) : Pure Tryz.prog 82 [.dp r.c 0, .arr .u64 16 f0] (boolD res) := by
  have hS := solve_pure r hr (mu r o + 1) o ho res (by omega) hres f0 hf0
  obtain ⟨c, hc⟩ : ∃ c, c = r.c := ⟨_, rfl⟩
  have hcd : c.all (D.dataB 8) = true := by rw [hc]; rfl
  rw [← hc] at hS ⊢
  obtain ⟨L, hL⟩ : ∃ L, L = Ck c (mu r o + 1) := ⟨_, rfl⟩
  have hL2 : L = [.fn (.func 92) [] [.dp [.dp c 0] 0, .dp (Ck c (mu r o)) 0]] := hL
  rw [← hL] at hS
  have hs := Ck_snd c hcd f0 (mu r o + 1)
  rw [← hL] at hs
  clear hL
  refine Pure.intro (want := [boolD res]) T_ok follows Tryz.func82 rfl (by kernel_rfl) (rs := [.tmp 4]) rfl (by kernel_rfl) ?_
  generalize hP : Tryz.prog = P at *
  have hT : T.ok P := hP ▸ T_ok
  have hm : P.follows .mixedOrders = true := hP ▸ follows
  unfold Tryz.f82
  dsimp only
  cbv
  refine CallP.lend _ _ hS ?_ rfl rfl ?_
  · exact .cons (.eq (.refl _)) (.cons (.dpn rfl rfl rfl rfl fun i d d' h1 h2 => by
        cases i with
        | zero =>
          simp at h1 h2
          subst h1; subst h2
          exact .refl _
        | succ i => simp at h1) (.cons hs .nil))
  cbv
  refine .mk (.cons (.refl _) .nil) rfl
end Go.Proofs.YtaopkjgldokahaaGreatDoor
namespace Go.Proofs.YtaopkjgldokahaaGreatDoor
open Go.RowKit Go.Shelf
attribute [local go_sem] Oper.semAt_some

/-! The sights of a group: the iterator. -/
def idxTo (gs : Nat → Int) (g : Int) (k : Nat) : List Nat := (List.range k).filter fun i => decide (gs i = g)
theorem idxTo_on {gs : Nat → Int} {g : Int} {k : Nat} (h : gs k = g) : idxTo gs g (k + 1) = idxTo gs g k ++ [k] := by
  unfold idxTo
  rw [List.range_succ, List.filter_append]
  simp [h]
theorem idxTo_off {gs : Nat → Int} {g : Int} {k : Nat} (h : ¬ gs k = g) : idxTo gs g (k + 1) = idxTo gs g k := by
  unfold idxTo
  rw [List.range_succ, List.filter_append]
  simp [h]
theorem idxTo_len (gs : Nat → Int) (g : Int) (k : Nat) : (idxTo gs g k).length ≤ k := by
  unfold idxTo
  have := List.length_filter_le (fun i => decide (gs i = g)) (List.range k)
  simpa using this
def Rows4 (w : World) (n0 : Nat) (a : Option Addr) (gs : Nat → Int) (len : Nat) : Prop :=
  ∀ i, i < len → ∃ b off r a2 m2 c2 a3 m3 c3, a = some ⟨b, off, none⟩ ∧ b < n0 ∧ w.cell? ⟨b, off + i * 4, none⟩ = some (.int .i64 (gs i)) ∧ w.cell? ⟨b, off + i * 4 + 1, none⟩ = some (.int .i64 r) ∧ w.cell? ⟨b, off + i * 4 + 2, none⟩ = some (.slice a2 m2 c2) ∧ w.cell? ⟨b, off + i * 4 + 3, none⟩ = some (.slice a3 m3 c3)
abbrev encN (x : Nat) : Array Value := #[.int .i64 (x : Int)]

set_option maxRecDepth 100000 in
set_option maxHeartbeats 1000000 in
theorem it46_in (F : Fence) (n : Nat) (h46 : F.fn 87) (hro : F.round = none) (hn : 1 ≤ n) (l n0 : Nat) (b1 o1 b2 o2 : Nat) (a : Option Addr) (len cap : Nat) (gs : Nat → Int) (g : Int) (w0 : World)
    (hc1 : w0.cell? ⟨b1, o1, none⟩ = some (.slice a len cap)) (hb1 : b1 < n0) (hc2 : w0.cell? ⟨b2, o2, none⟩ = some (.int .i64 g)) (hb2 : b2 < n0) (hr : Rows4 w0 n0 a gs len) (hlen : len < 9223372036854775807) (hn0 : n0 ≤ w0.heap.size)
    (J Jx : List Nat → World → Prop) (W : World) (hW : Below n0 w0 W) (hJa : AbidesFrom W.heap.size J)
    (hY : ∀ pre x W1, J pre W1 → pre.length < len → YieldAt F (n - 1) Tryz.prog l (encN x) W1 fun e W' =>
      (e = .returned (.bool true) ∧ J (pre ++ [x]) W' ∧ Below n0 W1 W') ∨ (e = .returned (.bool false) ∧ Jx (pre ++ [x]) W'))
    (h0 : J [] W) :
    CallsIn F n Tryz.prog 87 #[.func (.yield l) #[] #[], .pointer (some ⟨b1, o1, none⟩), .pointer (some ⟨b2, o2, none⟩)] W fun e W' => (∃ v, e = .returned v) ∧
      ((∃ ys, ys = idxTo gs g len ∧ J ys W') ∨ (∃ pre, True ∧ Jx pre W')) := by
  have HR := Lib.hid hr
  have C1 := Lib.hid hc1
  have C2 := Lib.hid hc2
  have c1 := hc1
  have hWs := hW.size
  rw [← hW.cell (p := ⟨b1, _, none⟩) hb1] at c1
  clear hr hc1 hc2
  refine callsIn_of_wp Tryz.func87 rfl h46 ?_ hro
  simp only [Tryz.ntmps87, List.size_toArray, List.length_cons, List.length_nil, Nat.reduceAdd, Nat.reduceSub, Array.replicate_succ, Array.replicate_zero, List.push_toArray, List.append_toArray, List.nil_append, List.cons_append]
  gi_wp2
  clear c1
  gi_loopw [8] (fun m wr => ∃ k : Nat, k ≤ len ∧ m = .int .i64 k ∧ Hid (J (idxTo gs g k) wr) ∧ Hid (Below n0 w0 wr)) (fun m _ => len - (intOf m).toNat)
  case atStart => exact ⟨0, by omega, rfl, h0, hW⟩
  case round =>
    obtain ⟨k, hk, rfl, HJ, HB⟩ := hrel
    by_cases hlt : k < len
    · have hlt' : (k : Int) < len := by omega
      obtain ⟨b, off, r, a2, m2, d2, a3, m3, d3, rfl, hb, c0, c1, c2, c3⟩ := HR.out k hlt
      have cg := C2.out
      rw [← HB.out.cell (p := ⟨b2, _, none⟩) hb2] at cg
      rw [← HB.out.cell (p := ⟨b, _, none⟩) hb] at c0 c1 c2 c3
      obtain ⟨wo, rfl⟩ : ∃ wo : World, wo = wr := ⟨_, rfl⟩
      have hs := HB.out.size
      have hb2' : b2 < wo.heap.size := by omega
      by_cases hg : gs k = g
      · rw [hg] at c0
        have Hg := Lib.hid hg
        clear hg
        obtain ⟨fn, tmps, assign, body, hy, hR⟩ := hY (idxTo gs g k) k (wo.alloc (.cells #[.int .i64 g, .int .i64 r, .slice a2 m2 d2, .slice a3 m3 d3] 32)) (hJa _ _ _ none HJ.out (World.grownBy_alloc _ _ none) (fun r e => by cases e)) (by have := idxTo_len gs g k; omega)
        gi_wp2
        refine hR.mono ?_
        clear hR hy
        rintro e W3 (⟨rfl, hJ3, hk3⟩ | ⟨rfl, hJx3⟩)
        · have hB3 : Below n0 w0 W3 := HB.out.trans (((Below.refl _ _).alloc (by omega) _).trans hk3)
          have E1 := Lib.hid (idxTo_on Hg.out)
          have B3 := Lib.hid hB3
          have J3 := Lib.hid hJ3
          clear hB3 hJ3 hk3
          gi_wp2
          go_roundw
          case rel => exact ⟨k + 1, by omega, by go_num, (by rw [E1.out]; exact J3), B3⟩
          case measure => simp [intOf]; omega
        · gi_wp2
          refine bodyPost_ret (results_none rfl _ _ _) rfl ?_
          exact ⟨⟨_, rfl⟩, .inr ⟨_, trivial, hJx3⟩⟩
      · generalize hgk : gs k = x at *
        have E1 := Lib.hid (idxTo_off (gs := gs) (g := g) (k := k) (by rw [hgk]; exact hg))
        have hq : (x == g) = false := by simpa using hg
        clear hgk hg
        gi_wp2
        refine ⟨fun f h => (by cases h), ?_⟩
        gi_wp2
        go_roundw
        case rel => exact ⟨k + 1, by omega, by go_num, (by rw [E1.out]; exact hJa _ _ _ none HJ.out (World.grownBy_alloc _ _ none) (fun r e => by cases e)), (by exact HB.out.trans ((Below.refl _ _).alloc (by omega) _))⟩
        case measure => simp [intOf]; omega
    · gi_wp2
      go_end0
      obtain rfl : k = len := by omega
      exact ⟨⟨_, rfl⟩, .inl ⟨_, rfl, HJ.out⟩⟩
end Go.Proofs.YtaopkjgldokahaaGreatDoor
namespace Go.Proofs.YtaopkjgldokahaaGreatDoor
open Go.RowKit Go.Shelf
attribute [local go_sem] Oper.semAt_some

/-! slices.Collect of an iterator of numbers. -/
abbrev encI (x : Nat) : Value := .int .i64 (x : Int)
/-- what lies between two rounds -/
def Ci (B0 : Nat) (w : World) (pre : List Nat) (W : World) : Prop :=
  (∃ v, Boxed W B0 30 v ∧ W.ownsRow B0 3 1 v pre.length (pre.map encI) ∧ (v = .slice none 0 0 ↔ pre = [])) ∧ Below B0 w W
theorem ci_own {B0 B : Nat} {w : World} (h1 : B0 ≤ w.heap.size) (h2 : B0 ≤ B) : OwnFrom B (Ci B0 w) :=
  OwnFrom.and (Own.from (holdsRow_own B0 B0 30 3 1 (fun pre : List Nat => pre.length) (fun pre => pre.map encI) (fun pre v => v = .slice none 0 0 ↔ pre = [])) _) (ownFrom_below h1 h2)
theorem info3 : ∃ i, Tryz.prog.info? 3 = some i ∧ i.zero = some (.int .i64 0) ∧ i.size = 1 ∧ i.bytes = 8 := by
  have h : (Tryz.prog.info? 3).map (fun i => (i.zero, i.size, i.bytes)) = some (some (.int .i64 0), 1, 8) := by kernel_rfl
  cases hi : Tryz.prog.info? 3 with
  | none => rw [hi] at h; cases h
  | some i =>
    rw [hi] at h
    simp only [Option.map_some, Option.some.injEq, Prod.mk.injEq] at h
    exact ⟨i, rfl, h.1, h.2.1, h.2.2⟩

set_option maxRecDepth 100000 in
set_option maxHeartbeats 2000000 in
theorem append_seq (gf : Nat) (lb : Array Value) (eg : ∀ args w, (callFunc gf args).run Tryz.prog w = .ok (.enter gf args) w) (S : List Nat → Prop) (N n0 : Nat) (hN : N ≤ 1000000) (w : World) (hn0 : n0 ≤ w.heap.size)
    (hseq : SeqStopsK Fence.wide 2 Tryz.prog gf lb encN (Below n0) S (fun _ => True) N w) :
    CallsIn Fence.wide 3 Tryz.prog 86 #[.slice none 0 0, .func (.func gf) #[] lb] w fun e w' => ∃ (v : Value) (ss : List Nat), e = .returned v ∧ S ss ∧ w'.ownsRow w.heap.size 3 1 v ss.length (ss.map encI) ∧ (v = .slice none 0 0 ↔ ss = []) ∧ Below w.heap.size w w' := by
  obtain ⟨i0, hi, hz0, hz1, hz2⟩ := info3
  refine callsIn_of_wp_marks Tryz.func86 rfl trivial ?_ rfl
  simp only [Tryz.ntmps86, List.size_toArray, List.length_cons, List.length_nil, Nat.reduceAdd, Nat.reduceSub, Array.replicate_succ, Array.replicate_zero, List.push_toArray, List.append_toArray, List.nil_append, List.cons_append]
  gi_wp2
  have bX : Boxed (w.alloc (.cells #[.slice none 0 0] 30)) w.heap.size 30 (.slice none 0 0) := heap_alloc_new w _
  have hB0 : Below w.heap.size w (w.alloc (.cells #[.slice none 0 0] 30)) := (Below.refl _ _).alloc (Nat.le_refl _) _
  have hsz : (w.alloc (.cells #[.slice none 0 0] 30)).heap.size = w.heap.size + 1 := by simp
  generalize w.alloc (.cells #[.slice none 0 0] 30) = W0 at *
  refine wpIn_rangeFunc_ownF rfl (by omega) (n := 3) (gf := gf) (lb := lb) rfl trivial eg hseq (fun h k => h.trans k) (fun W l o o' h1 h2 h3 h4 => belowK_b (w := w) (n₀ := n0) hn0 W l o o' (by omega) h2 h3 h4) hB0 (fun _ => rfl)
    (Ci w.heap.size w) (fun _ _ _ => False) (ci_own (Nat.le_refl _) (by omega)) (fun _ _ _ _ _ hs _ _ => hs) ⟨⟨_, bX, World.ownsRow_nil _ _ _ _, by simp⟩, hB0⟩
    (fun x => { tmps := #[.slice none 0 0, .func (.func gf) #[] lb, .pointer (some ⟨w.heap.size, 0, none⟩), undef, .slice none 0 0, encI x, .func (.func gf) #[] lb, encI x, undef, undef, undef, undef, undef], defers := [] })
    ?assign ?body ?done ?stop
  case assign =>
    intro l x W K hK
    gi_wp2
    exact hK
  case body =>
    rintro l pre x W ⟨⟨v, hv, hrow, hnil⟩, hB⟩ hlt1
    have cX := hv.cell
    have hBs := hB.size
    have hmax : pre.length + 1 ≤ maxLen := by unfold maxLen; omega
    have HB := Lib.hid hB
    clear hB bX hB0
    gi_wp2_with (gi_at_builtin; refine wpListIn_append_own _ rfl _ _ 30 rfl w.heap.size 3 i0 (.int .i64 0) 1 8 Tryz.underlying30 hi hz0 hz1 hz2 rfl (by decide) _ _ _ rfl (hrow.alloc _) ⟨W.heap.size, 0, none⟩ 1 1 [encI x] rfl rfl (cell_one_new _ _ _) (by simp [Value.oneCell']) hmax (by omega) (by simp; omega) ?_; intro v' w9 hown' hgrow hnil'; obtain ⟨g', cap9, rfl⟩ := ownsRow_succ hown'; obtain ⟨hv1, hv2, hr2, hk2, hb2⟩ := hv.appended (by decide) hrow hBs (Nat.le_refl _) hown' hgrow; have hc1 := hv1.cell; have hf1 := hv1.frozen)
    exact ⟨hk2, hb2.mono hn0, ⟨_, hv2, by simpa using hr2, by simp⟩, HB.out.trans hb2⟩
  case done =>
    rintro D ys W hD hS ⟨⟨v, hv, hrow, hnil⟩, hB⟩ hK
    have cX := hv.cell
    have fX := hv.frozen
    have Hrow := Lib.hid hrow
    have HB := Lib.hid hB
    have HK := Lib.hid hK
    clear hB hrow hK bX hB0
    gi_wp2
    have hr4 := ownsRow_putObj Hrow.out (.deferred none) HK.out rfl
    have hb4 := HB.out.trans (belowK_b (w := w) (n₀ := w.heap.size) (Nat.le_refl _) _ D _ (.deferred none) (by omega) HK.out rfl rfl)
    refine ⟨by simp, .inl ⟨_, _, rfl, run_takeDeferred HK.out, ?_⟩⟩
    exact ⟨_, results_tmp rfl _ _ _, v, ys, rfl, hS, hr4, hnil, hb4⟩
  case stop =>
    rintro D c pre W _ _ h _
    exact h.elim
end Go.Proofs.YtaopkjgldokahaaGreatDoor
namespace Go.Proofs.YtaopkjgldokahaaGreatDoor
open Go.RowKit Go.Shelf
attribute [local go_sem] Oper.semAt_some

/-! slices.Collect of the sights of a group. -/
set_option maxHeartbeats 1000000 in
theorem collect_seq (gf : Nat) (lb : Array Value) (eg : ∀ args w, (callFunc gf args).run Tryz.prog w = .ok (.enter gf args) w) (S : List Nat → Prop) (N n0 : Nat) (hN : N ≤ 1000000) (w : World) (hn0 : n0 ≤ w.heap.size)
    (hseq : SeqStopsK Fence.wide 2 Tryz.prog gf lb encN (Below n0) S (fun _ => True) N w) :
    CallsIn Fence.wide 4 Tryz.prog 78 #[.func (.func gf) #[] lb] w fun e w' => ∃ (v : Value) (ss : List Nat), e = .returned v ∧ S ss ∧ w'.ownsRow w.heap.size 3 1 v ss.length (ss.map encI) ∧ (v = .slice none 0 0 ↔ ss = []) ∧ Below w.heap.size w w' := by
  have hf45 : Fence.wide.fn 86 := trivial
  refine callsIn_of_wp Tryz.func78 rfl trivial ?_ rfl
  simp only [Tryz.ntmps78, List.size_toArray, List.length_cons, List.length_nil, Nat.reduceAdd, Nat.reduceSub, Array.replicate_succ, Array.replicate_zero, List.push_toArray, List.append_toArray, List.nil_append, List.cons_append]
  gi_wp2_with (gi_at_call 86; refine (append_seq gf lb eg S N n0 hN _ hn0 hseq).mono ?_; rintro e w' ⟨v, ss, rfl, hS, hrow, hnil, hb⟩)
  go_ret
  exact ⟨v, ss, rfl, hS, hrow, hnil, hb⟩
/-- a row of numbers of the call's own, as data -/
theorem slm_of_row {w w' : World} {B : Nat} {α : Type} {l : List α} {v : Value} (e : α → IE) (hIR : ∀ x ∈ l, InR .i64 (e x).den) (h : w'.ownsRow B 3 1 v l.length (l.map fun x => .int .i64 (e x).den)) (hn : v = .slice none 0 0 ↔ l = []) (hB : B = w.heap.size) :
    ∃ G' : Nat → Prop, (∀ b, G' b → w.heap.size ≤ b ∧ b < w'.heap.size) ∧ DRep w' (Env.of G') (.slm 1 (some (.var l.isEmpty)) (fun x => [.int .i64 (e x)]) l) v := by
  subst hB
  obtain ⟨_, h2⟩ := h
  rcases h2 with ⟨hv, hl⟩ | ⟨g, cap, cur, hv, hg, hh, hc, hm, hs, ht⟩
  · obtain rfl : l = [] := List.eq_nil_of_length_eq_zero hl
    subst hv
    refine ⟨fun _ => False, fun b h => h.elim, ?_⟩
    exact DRep.slm (l := []) (fun _ _ => undef) (fun e h => by cases h; rfl) (Nat.le_refl _) (Nat.zero_le _) (fun x hx => by cases hx) (fun h => absurd rfl h) fun i x j d h => by simp at h
  · have hne : l ≠ [] := fun e => by
      have := hn.2 e
      rw [hv] at this
      cases this
    subst hv
    have hgl : g < w'.heap.size := (Array.getElem?_eq_some_iff.1 hh).1
    have hget : ∀ i, i < l.length → cur[i]? = (l.map fun x => Value.int .i64 (e x).den)[i]? := fun i hi => by
      rw [← ht, List.getElem?_take, if_pos (by omega)]
      simp
    refine ⟨fun b => b = g, fun b h => by subst h; exact ⟨hg, hgl⟩, ?_⟩
    refine DRep.slm (fun i _ => cur.getD i undef) (fun e h => by cases h; cases l with | nil => exact absurd rfl hne | cons a t => rfl) hc hm (fun x hx => rfl) (fun _ => ⟨g, 0, rfl, rfl, fun i j hi hj => ?_⟩) fun i x j d h1 h2 => ?_
    · obtain rfl : j = 0 := by omega
      rw [cell_of_row w' g _ cur 3 (0, 0) hh]
      have : i < cur.size := by rw [hs]; omega
      simp [Array.getD, this]
    · have hi : i < l.length := (List.getElem?_eq_some_iff.1 h1).1
      cases j with
      | succ j => simp at h2
      | zero =>
        simp at h2
        subst h2
        have h3 := hget i hi
        rw [List.getElem?_map, h1] at h3
        have h4 : cur.getD i undef = .int .i64 (e x).den := by
          simp only [Option.map_some] at h3
          obtain ⟨q, h5⟩ := Array.getElem?_eq_some_iff.1 h3
          simp [Array.getD, q, h5]
        rw [h4]
        exact .int (hIR x (List.mem_of_getElem? h1))
end Go.Proofs.YtaopkjgldokahaaGreatDoor
namespace Go.Proofs.YtaopkjgldokahaaGreatDoor
open Go.RowKit Go.Shelf

/-! The sights of a group, collected. -/
def grpAt (S : List SeenD) (i : Nat) : Int := ((S[i]?).map SeenD.group).getD 0
def sightsL (S : List SeenD) (g : Int) : List Nat := idxTo (grpAt S) g S.length
theorem rows4 {w : World} {G : Nat → Prop} {n0 : Nat} (hG : ∀ b, G b → b < n0) {nb : Option BE} {S : List SeenD} {v : Value} {E : Env} (hE : E.G = G) (h : DRep w E (.slm 4 nb SeenD.c S) v) :
    ∃ a cap, v = .slice a S.length cap ∧ Rows4 w n0 a (grpAt S) S.length := by
  generalize hd : D.slm 4 nb SeenD.c S = d at h
  cases h with
  | @slm E α n nb c l a cap u hnb hc hm hx ha hh =>
    cases hd
    refine ⟨a, cap, rfl, fun i hi => ?_⟩
    obtain ⟨b, base, q1, q2, q3⟩ := ha (fun e => by rw [e] at hi; simp at hi)
    have hs : S[i]? = some S[i] := List.getElem?_eq_getElem hi
    have e0 := hh i S[i] 0 _ hs rfl
    have e1 := hh i S[i] 1 _ hs rfl
    have e2 := hh i S[i] 2 _ hs rfl
    have e3 := hh i S[i] 3 _ hs rfl
    have c0 := q3 i 0 hi (by omega)
    have c1 := q3 i 1 hi (by omega)
    have c2 := q3 i 2 hi (by omega)
    have c3 := q3 i 3 hi (by omega)
    have hg : grpAt S i = S[i].group := by unfold grpAt; rw [hs]; rfl
    generalize u i 0 = v0 at *
    generalize u i 1 = v1 at *
    generalize u i 2 = v2 at *
    generalize u i 3 = v3 at *
    cases e0 with
    | int h0 =>
      cases e1 with
      | int h1 =>
        cases e2 with
        | slm =>
          cases e3 with
          | slm => exact ⟨b, base, _, _, _, _, _, _, _, q1, hG b (by rw [← hE]; exact q2), by rw [hg]; exact c0, c1, c2, c3⟩
  | _ => cases hd
theorem int_inv {w : World} {E : Env} {x : Int} {v : Value} (h : DRep w E (i64 x) v) : v = .int .i64 x := by
  cases h with
  | int h0 => rfl
theorem dp_inv {w : World} {E : Env} {d : D} {v : Value} (h : DRep w E (.dp [d] 0) v) : ∃ b o u, v = .pointer (some ⟨b, o, none⟩) ∧ E.G b ∧ w.cell? ⟨b, o, none⟩ = some u ∧ DRep w E.data d u := by
  cases h with
  | @dp E cells off b base u hg hu hh => exact ⟨b, base, u 0, rfl, hg, hu 0 (by simp), hh 0 d rfl⟩
theorem fn2_inv {w : World} {E : Env} {f : Fn} {d1 d2 : D} {v : Value} (h : DRep w E (.fn f [] [d1, d2]) v) : ∃ v1 v2, v = .func f #[] #[v1, v2] ∧ DRep w E d1 v1 ∧ DRep w E d2 v2 := by
  cases h with
  | @fn E f l0 l1 a0 a1 hs0 hs1 h0 h1 =>
    obtain ⟨a0⟩ := a0
    obtain ⟨a1⟩ := a1
    match a0, a1, hs0, hs1 with
    | [], [v1, v2], _, _ => exact ⟨v1, v2, rfl, h1 0 d1 v1 rfl rfl, h1 1 d2 v2 rfl rfl⟩
theorem one_inv {w : World} {E : Env} {d : D} {vs : Array Value} (h : LRep w E [d] vs) : ∃ v, vs = #[v] ∧ DRep w E d v := by
  obtain ⟨h1, h2⟩ := h
  obtain ⟨vl⟩ := vs
  match vl, h1 with
  | [v], _ => exact ⟨v, rfl, h2 0 d v rfl rfl⟩
theorem sights_pureF (S : List SeenD) (nb : Option BE) (g : Int) (hS : S.length ≤ 1000000) : PureF Tryz.prog 78 [.fn (.func 87) [] [.dp [.slm 4 nb SeenD.c S] 0, .dp [i64 g] 0]] (.slm 1 none natC (sightsL S g)) := by
  refine ⟨⟨_, _, Tryz.func78, rfl, by kernel_rfl⟩, fun w G vs hL hG hv => ?_⟩
  obtain ⟨v, rfl, hv2⟩ := one_inv hv
  obtain ⟨v1, v2, rfl, hd1, hd2⟩ := fn2_inv hv2
  obtain ⟨b1, o1, u1, rfl, hg1, hc1, hr1⟩ := dp_inv hd1
  obtain ⟨b2, o2, u2, rfl, hg2, hc2, hr2⟩ := dp_inv hd2
  obtain ⟨a, cap, rfl, hrows⟩ := rows4 (n0 := w.heap.size) hG rfl hr1
  obtain rfl := int_inv hr2
  refine (callsIn_wide (n := 4)).1 ?_
  refine (collect_seq 87 #[.pointer (some ⟨b1, o1, none⟩), .pointer (some ⟨b2, o2, none⟩)] (enters_of Tryz.func87 (by kernel_rfl) rfl) (fun ys => ys = sightsL S g) S.length w.heap.size hS w (Nat.le_refl _)
    (fun l J Jx W hW hJ _ hY h0 => it46_in Fence.wide 2 trivial rfl (by omega) l w.heap.size b1 o1 b2 o2 a S.length cap (grpAt S) g w hc1 (hG _ hg1) hc2 (hG _ hg2) hrows (by omega) (Nat.le_refl _) J Jx W hW hJ hY h0)).mono ?_
  rintro e w' ⟨v, ss, rfl, rfl, hrow, hnil, hb⟩
  have hlen := idxTo_len (grpAt S) g S.length
  have hlt : ∀ x ∈ sightsL S g, x < S.length := fun x hx => by
    have := (List.mem_filter.1 hx).1
    simpa using this
  obtain ⟨G', h1, h2⟩ := slm_of_row (w := w) (w' := w') (B := w.heap.size) (l := sightsL S g) (v := v) (fun n => IE.nat n) (fun x hx => by
    have := hlt x hx
    show IntKind.i64.min ≤ (x : Int) ∧ (x : Int) ≤ IntKind.i64.max
    simp [IntKind.min, IntKind.max, IntKind.signed, IntKind.bits]
    omega) hrow hnil rfl
  exact ⟨v, G', rfl, hb, h1, (DEq.slm (.inl rfl) rfl).rep h2⟩
end Go.Proofs.YtaopkjgldokahaaGreatDoor
namespace Go.Proofs.YtaopkjgldokahaaGreatDoor
open Go.RowKit Go.Shelf Go.Maps Go.Sort Go.WideElems Go.MapKept

/-! slices.Sorted of maps.Keys: the library's contracts laid at this program. -/
def keysZ_ren : Go.Shelf.Ren := ⟨fun | 7 => 89 | 10 => 96 | n => n, fun | 23 => 121 | 26 => 3 | 3 => 114 | 28 => 110 | 0 => 0 | 27 => 109 | 33 => 90 | 4 => 4 | n => n, fun | n => n⟩
theorem keysZ : Go.Proofs.SlLaysZI.n7 Tryz.prog keysZ_ren := {
  mixed := by kernel_rfl
  f7 := ⟨Tryz.f89.name, by decide, Tryz.func89.trans (congrArg some (by kernel_rfl))⟩
  f10 := ⟨Tryz.f96.name, by decide, Tryz.func96.trans (congrArg some (by kernel_rfl))⟩
  t0 := Tryz.underlying0
  a0 := Tryz.isAgg0
  z0 := Tryz.sizeOf0
  v0 := Tryz.zeroValue0
  t4 := Tryz.underlying4
  a4 := Tryz.isAgg4
  z4 := Tryz.sizeOf4
  v4 := Tryz.zeroValue4
  t23 := Tryz.underlying121
  a23 := Tryz.isAgg121
  z23 := Tryz.sizeOf121
  v23 := Tryz.zeroValue121
  t26 := Tryz.underlying3
  a26 := Tryz.isAgg3
  z26 := Tryz.sizeOf3
  v26 := Tryz.zeroValue3
  t27 := Tryz.underlying109
  a27 := Tryz.isAgg109
  z27 := Tryz.sizeOf109
  v27 := Tryz.zeroValue109
  t28 := Tryz.underlying110
  a28 := Tryz.isAgg110
  z28 := Tryz.sizeOf110
  v28 := Tryz.zeroValue110
  t33 := Tryz.underlying90
  a33 := Tryz.isAgg90
  z33 := Tryz.sizeOf90
  v33 := Tryz.zeroValue90 }
def sortedZ_ren : Go.Shelf.Ren := ⟨fun | 6 => 88 | 8 => 78 | 9 => 95 | 11 => 86 | 13 => 100 | 12 => 99 | 23 => 110 | 24 => 111 | 14 => 101 | 15 => 102 | 16 => 103 | 17 => 104 | 18 => 105 | 19 => 106 | 20 => 107 | 21 => 108 | 22 => 109 | 25 => 112 | 26 => 113 | 27 => 114 | 28 => 115 | 29 => 116 | 30 => 117 | 31 => 118 | n => n, fun | 26 => 3 | 28 => 110 | 24 => 30 | 0 => 0 | 3 => 3 | 37 => 137 | 48 => 148 | 50 => 113 | 4 => 4 | 40 => 141 | 39 => 140 | 45 => 106 | 5 => 5 | 9 => 9 | 51 => 149 | 55 => 153 | 57 => 155 | 58 => 156 | 33 => 90 | n => n, fun | n => n⟩
theorem sortedZ : Go.Proofs.SlLaysZI.n6 Tryz.prog sortedZ_ren := {
  mixed := by kernel_rfl
  f6 := ⟨Tryz.f88.name, by decide, Tryz.func88.trans (congrArg some (by kernel_rfl))⟩
  f8 := ⟨Tryz.f78.name, by decide, Tryz.func78.trans (congrArg some (by kernel_rfl))⟩
  f11 := ⟨Tryz.f86.name, by decide, Tryz.func86.trans (congrArg some (by kernel_rfl))⟩
  t0 := Tryz.underlying0
  a0 := Tryz.isAgg0
  z0 := Tryz.sizeOf0
  v0 := Tryz.zeroValue0
  t24 := Tryz.underlying30
  a24 := Tryz.isAgg30
  z24 := Tryz.sizeOf30
  v24 := Tryz.zeroValue30
  t26 := Tryz.underlying3
  a26 := Tryz.isAgg3
  z26 := Tryz.sizeOf3
  v26 := Tryz.zeroValue3
  t28 := Tryz.underlying110
  a28 := Tryz.isAgg110
  z28 := Tryz.sizeOf110
  v28 := Tryz.zeroValue110
  i26 := by kernel_rfl }
def sortZ_ren : Go.Shelf.Ren := ⟨fun | 5 => 95 | 8 => 100 | 7 => 99 | 19 => 110 | 20 => 111 | 10 => 101 | 11 => 102 | 12 => 103 | 13 => 104 | 14 => 105 | 15 => 106 | 16 => 107 | 17 => 108 | 18 => 109 | 30 => 112 | 31 => 113 | 32 => 114 | 33 => 115 | 34 => 116 | 35 => 117 | 40 => 118 | n => n, fun | 23 => 30 | 25 => 3 | 3 => 3 | 32 => 137 | 22 => 30 | 0 => 0 | 44 => 148 | 46 => 113 | 4 => 4 | 36 => 141 | 35 => 140 | 41 => 106 | 5 => 5 | 9 => 9 | 53 => 149 | 57 => 153 | 63 => 155 | 64 => 156 | n => n, fun | n => n⟩
theorem sortZ : Go.Proofs.SlLaysM.n5 Tryz.prog sortZ_ren := {
  mixed := by kernel_rfl
  f5 := ⟨Tryz.f95.name, by decide, Tryz.func95.trans (congrArg some (by kernel_rfl))⟩
  f7 := ⟨Tryz.f99.name, by decide, Tryz.func99.trans (congrArg some (by kernel_rfl))⟩
  f8 := Tryz.func100.trans (congrArg some (by kernel_rfl))
  f10 := ⟨Tryz.f101.name, by decide, Tryz.func101.trans (congrArg some (by kernel_rfl))⟩
  f11 := ⟨Tryz.f102.name, by decide, Tryz.func102.trans (congrArg some (by kernel_rfl))⟩
  f12 := ⟨Tryz.f103.name, by decide, Tryz.func103.trans (congrArg some (by kernel_rfl))⟩
  f13 := ⟨Tryz.f104.name, by decide, Tryz.func104.trans (congrArg some (by kernel_rfl))⟩
  f14 := ⟨Tryz.f105.name, by decide, Tryz.func105.trans (congrArg some (by kernel_rfl))⟩
  f15 := ⟨Tryz.f106.name, by decide, Tryz.func106.trans (congrArg some (by kernel_rfl))⟩
  f16 := ⟨Tryz.f107.name, by decide, Tryz.func107.trans (congrArg some (by kernel_rfl))⟩
  f17 := ⟨Tryz.f108.name, by decide, Tryz.func108.trans (congrArg some (by kernel_rfl))⟩
  f18 := ⟨Tryz.f109.name, by decide, Tryz.func109.trans (congrArg some (by kernel_rfl))⟩
  f19 := Tryz.func110.trans (congrArg some (by kernel_rfl))
  f20 := Tryz.func111.trans (congrArg some (by kernel_rfl))
  f30 := ⟨Tryz.f112.name, by decide, Tryz.func112.trans (congrArg some (by kernel_rfl))⟩
  f31 := Tryz.func113.trans (congrArg some (by kernel_rfl))
  f32 := Tryz.func114.trans (congrArg some (by kernel_rfl))
  f33 := ⟨Tryz.f115.name, by decide, Tryz.func115.trans (congrArg some (by kernel_rfl))⟩
  f34 := ⟨Tryz.f116.name, by decide, Tryz.func116.trans (congrArg some (by kernel_rfl))⟩
  f35 := ⟨Tryz.f117.name, by decide, Tryz.func117.trans (congrArg some (by kernel_rfl))⟩
  f40 := ⟨Tryz.f118.name, by decide, Tryz.func118.trans (congrArg some (by kernel_rfl))⟩
  t0 := Tryz.underlying0
  a0 := Tryz.isAgg0
  z0 := Tryz.sizeOf0
  v0 := Tryz.zeroValue0
  t3 := Tryz.underlying3
  a3 := Tryz.isAgg3
  z3 := Tryz.sizeOf3
  v3 := Tryz.zeroValue3
  t4 := Tryz.underlying4
  a4 := Tryz.isAgg4
  z4 := Tryz.sizeOf4
  v4 := Tryz.zeroValue4
  t5 := Tryz.underlying5
  a5 := Tryz.isAgg5
  z5 := Tryz.sizeOf5
  v5 := Tryz.zeroValue5
  t9 := Tryz.underlying9
  a9 := Tryz.isAgg9
  z9 := Tryz.sizeOf9
  v9 := Tryz.zeroValue9
  t22 := Tryz.underlying30
  a22 := Tryz.isAgg30
  z22 := Tryz.sizeOf30
  v22 := Tryz.zeroValue30
  t23 := Tryz.underlying30
  a23 := Tryz.isAgg30
  z23 := Tryz.sizeOf30
  v23 := Tryz.zeroValue30
  t25 := Tryz.underlying3
  a25 := Tryz.isAgg3
  z25 := Tryz.sizeOf3
  v25 := Tryz.zeroValue3
  t32 := Tryz.underlying137
  a32 := Tryz.isAgg137
  z32 := Tryz.sizeOf137
  v32 := Tryz.zeroValue137
  t35 := Tryz.underlying140
  a35 := Tryz.isAgg140
  z35 := Tryz.sizeOf140
  v35 := Tryz.zeroValue140
  t36 := Tryz.underlying141
  a36 := Tryz.isAgg141
  z36 := Tryz.sizeOf141
  v36 := Tryz.zeroValue141
  t41 := Tryz.underlying106
  a41 := Tryz.isAgg106
  z41 := Tryz.sizeOf106
  v41 := Tryz.zeroValue106
  t44 := Tryz.underlying148
  a44 := Tryz.isAgg148
  z44 := Tryz.sizeOf148
  v44 := Tryz.zeroValue148
  t46 := Tryz.underlying113
  a46 := Tryz.isAgg113
  z46 := Tryz.sizeOf113
  v46 := Tryz.zeroValue113
  t53 := Tryz.underlying149
  a53 := Tryz.isAgg149
  z53 := Tryz.sizeOf149
  v53 := Tryz.zeroValue149
  t57 := Tryz.underlying153
  a57 := Tryz.isAgg153
  z57 := Tryz.sizeOf153
  v57 := Tryz.zeroValue153
  t63 := Tryz.underlying155
  a63 := Tryz.isAgg155
  z63 := Tryz.sizeOf155
  v63 := Tryz.zeroValue155
  t64 := Tryz.underlying156
  a64 := Tryz.isAgg156
  z64 := Tryz.sizeOf156
  v64 := Tryz.zeroValue156 }

theorem sortsZ (m : Nat) : AnyZI.SortsIn Tryz.prog sortedZ_ren Fence.wide m :=
  ⟨fun blk off cap ss W hH hblk hsz => callsIn_wide.2 (AnyM.slices_Sort_int sortZ blk off cap ss W hH hblk hsz),
   fun p cap W => callsIn_wide.2 (AnyM.slices_Sort_int_none sortZ p cap W)⟩
abbrev Rany (_ : Value) : Option (DataW Unit × List MemPlace) := some (.nil, [])
abbrev keysD (P : Program) (es : Array MapEntry) : DataW Unit := .map ((es.toList.map (rg P 3 Rany)).foldr DataW.insert [])
theorem keyOf3 {x : Int} (h : InR .i64 x) : keyOf Tryz.prog 3 (.int .i64 x) = some (.int .i64 x) := by
  have h3 : Tryz.prog.underlying 3 = some (.int .i64) := Tryz.underlying3
  unfold keyOf mapKey
  rw [h3]
  have : (Lit.int .i64 x).wf = true := by
    unfold Lit.wf
    simp only [Bool.and_eq_true, decide_eq_true_eq]
    exact h
  simp [this]
theorem rd_of {e : MapEntry} {x : Int} (hk : e.key = .int .i64 x) (hx : InR .i64 x) : Go.WideElems.rd Tryz.prog 3 Rany e = some (.int .i64 x, .nil) := by
  unfold Go.WideElems.rd
  rw [hk, keyOf3 hx]
  rfl
theorem keys_mem {es : Array MapEntry} {ks : List Int} (h1 : ∀ e ∈ es.toList, ∃ x, e.key = .int .i64 x ∧ InR .i64 x ∧ x ∈ ks) (h2 : ∀ x ∈ ks, ∃ e ∈ es.toList, e.key = .int .i64 x) (h3 : es.toList.Pairwise fun a b => a.key ≠ b.key) (hs : ks.Pairwise fun a b => a < b) {ss : List Int} (hp : ss.Perm (intKeys (keysD Tryz.prog es))) :
    ss.mergeSort (fun x y => decide (x ≤ y)) = ks := by
  have hk : ∀ l : List MapEntry, (∀ e ∈ l, ∃ x, e.key = .int .i64 x ∧ InR .i64 x) → intKeys (H := Unit) (.map (l.map (rg Tryz.prog 3 Rany))) = l.map fun e => match e.key with | .int _ x => x | _ => 0 := fun l => by
    induction l with
    | nil => intro _; rfl
    | cons e l ih =>
      intro h
      obtain ⟨x, q1, q2⟩ := h e (by simp)
      have q3 := ih fun e he => h e (by simp [he])
      have q4 : intKeys (H := Unit) (.map ((e :: l).map (rg Tryz.prog 3 Rany))) = intKeys (H := Unit) (.map [rg Tryz.prog 3 Rany e]) ++ intKeys (H := Unit) (.map (l.map (rg Tryz.prog 3 Rany))) := rfl
      rw [q4, q3, rg_of (rd_of q1 q2), List.map_cons, q1]
      rfl
  have hp2 : ss.Perm (es.toList.map fun e => match e.key with | .int _ x => x | _ => 0) := by
    rw [← hk es.toList fun e he => by obtain ⟨x, q1, q2, _⟩ := h1 e he; exact ⟨x, q1, q2⟩]
    exact hp.trans (by unfold intKeys; exact (Go.WideShapes.sorted_perm _).map _)
  have hn : (es.toList.map fun e => match e.key with | .int _ x => x | _ => (0 : Int)).Nodup := by
    refine List.pairwise_map.2 (h3.imp_of_mem fun {a b} ha hb hne e => hne ?_)
    obtain ⟨x, q1, _⟩ := h1 a ha
    obtain ⟨y, q2, _⟩ := h1 b hb
    rw [q1, q2] at e ⊢
    simp only at e
    rw [e]
  have hkn : ks.Nodup := hs.imp fun h => by omega
  have hp3 : ss.Perm ks := by
    refine (List.perm_ext_iff_of_nodup (hp2.nodup_iff.2 hn) hkn).2 fun x => ?_
    rw [hp2.mem_iff, List.mem_map]
    constructor
    · rintro ⟨e, he, rfl⟩
      obtain ⟨x, q1, _, q2⟩ := h1 e he
      rw [q1]
      exact q2
    · intro hx
      obtain ⟨e, he, q⟩ := h2 x hx
      exact ⟨e, he, by rw [q]⟩
  have tr : ∀ a b c : Int, (decide (a ≤ b)) = true → (decide (b ≤ c)) = true → (decide (a ≤ c)) = true := fun a b c h1 h2 => by simp only [decide_eq_true_eq] at *; omega
  have to : ∀ a b : Int, (decide (a ≤ b) || decide (b ≤ a)) = true := fun a b => by simp only [Bool.or_eq_true, decide_eq_true_eq]; omega
  refine List.Perm.eq_of_pairwise (le := fun a b => decide (a ≤ b) = true) (fun a b _ _ h1 h2 => ?_) (List.pairwise_mergeSort tr to ss) (hs.imp fun h => by simp only [decide_eq_true_eq]; omega) ((List.mergeSort_perm ss _).trans hp3)
  simp only [decide_eq_true_eq] at h1 h2
  omega
theorem sorted_world (w : World) (bx b : Nat) (es : Array MapEntry) (clock : Nat) (ks : List Int) (hm : w.cell? ⟨bx, 0, none⟩ = some (.map (some b))) (hbx : bx < w.heap.size) (hb : w.heap[b]? = some (.map es clock)) (hsz : es.size ≤ 1000)
    (h1 : ∀ e ∈ es.toList, ∃ x, e.key = .int .i64 x ∧ InR .i64 x ∧ x ∈ ks) (h2 : ∀ x ∈ ks, ∃ e ∈ es.toList, e.key = .int .i64 x) (h3 : es.toList.Pairwise fun a b => a.key ≠ b.key ∧ a.born ≠ b.born) (h4 : ∀ e ∈ es.toList, e.born < clock) (hs : ks.Pairwise fun a b => a < b) :
    Calls Tryz.prog 88 #[.func (.func 96) #[] #[.pointer (some ⟨bx, 0, none⟩)]] w fun e w' => ∃ v, e = .returned v ∧ w'.ownsRow w.heap.size 3 1 v ks.length (ks.map fun x => .int .i64 x) ∧ (v = .slice none 0 0 ↔ ks = []) ∧ Below w.heap.size w w' := by
  have hown : w.ownsMap Tryz.prog 3 Rany b es.size (keysD Tryz.prog es) := ⟨es, clock, hb, ⟨by unfold maxLen; omega, ⟨h4, List.pairwise_map.2 (h3.imp fun h => h.2), List.pairwise_map.2 (h3.imp fun h => h.1)⟩, fun e he => by
    obtain ⟨x, q1, q2, _⟩ := h1 e he
    exact ⟨_, rd_of q1 q2⟩⟩, Nat.le_refl _, rfl⟩
  have hszD : Maps.size (keysD Tryz.prog es) = es.size := by
    show (List.foldr DataW.insert [] _).length = _
    rw [(Go.WideShapes.sorted_perm _).length_eq]
    simp
  refine (callsIn_wide (n := 5)).1 ?_
  have hseq : SeqGives Fence.wide 2 Tryz.prog 96 #[.pointer (some ⟨bx, 0, none⟩)] encZ (fun ss => ss.Perm (intKeys (keysD Tryz.prog es))) (Maps.size (keysD Tryz.prog es)) w :=
    AnyZI.keys_gives (ρ := keysZ_ren) { keysZ with } Fence.wide _ trivial rfl (by omega) bx b es.size (keysD Tryz.prog es) w hbx hm hown
  have cS := AnyZI.sorted_in sortedZ Fence.wide 5 trivial trivial trivial trivial rfl (by omega) (sortsZ _) (enters_of Tryz.func95 (by kernel_rfl) rfl) 96 #[.pointer (some ⟨bx, 0, none⟩)] trivial (enters_of Tryz.func96 (by kernel_rfl) rfl) _ _ (by rw [hszD]; unfold maxLen; omega) (by rw [hszD]; omega) w hseq
  refine CallsIn.mono cS ?_
  rintro e w' ⟨v, ss, rfl, hp, hrow, hnil, hbl⟩
  have hks := keys_mem (fun e he => h1 e he) h2 (h3.imp fun h => h.1) hs hp
  have hl : ss.length = ks.length := by rw [← hks]; simp
  rw [hks, hl] at hrow
  exact ⟨v, rfl, hrow, hnil.trans ⟨fun h => by rw [← List.length_eq_zero_iff, ← hl, h]; rfl, fun h => by rw [← List.length_eq_zero_iff, hl, h]; rfl⟩, hbl⟩
end Go.Proofs.YtaopkjgldokahaaGreatDoor
namespace Go.Proofs.YtaopkjgldokahaaGreatDoor
open Go.RowKit

/-! slices.Sorted of maps.Keys at a map of the call's own. -/
theorem fn1_inv {w : World} {E : Env} {f : Fn} {d1 : D} {v : Value} (h : DRep w E (.fn f [] [d1]) v) : ∃ v1, v = .func f #[] #[v1] ∧ DRep w E d1 v1 := by
  cases h with
  | @fn E f l0 l1 a0 a1 hs0 hs1 h0 h1 =>
    obtain ⟨a0⟩ := a0
    obtain ⟨a1⟩ := a1
    match a0, a1, hs0, hs1 with
    | [], [v1], _, _ => exact ⟨v1, rfl, h1 0 d1 v1 rfl rfl⟩
/-- a call that leaves all as it was, and gives something new -/
theorem CallP.fresh {P : Program} {f : Nat} {args : List D} {H : List Bk} {K : D → List Bk → Prop} (d : D) (hh : Here P f)
    (hp : ∀ (B : Base) (w : World) (E : Env) (vs : Array Value), B.h0 ≤ H.length → LRep w E args vs → WRel B H E w → Calls P f vs w fun e w' => ∃ (v : Value) (G' : Nat → Prop), e = .returned v ∧ Below w.heap.size w w' ∧ (∀ b, G' b → w.heap.size ≤ b ∧ b < w'.heap.size) ∧ DRep w' (Env.of G') d v)
    (hk : K d H) : CallP P f args H K := by
  refine ⟨hh, fun B w E vs h0 hv hw => (hp B w E vs h0 hv hw).mono ?_⟩
  rintro e w' ⟨v, G', rfl, q2, q3, q4⟩
  have hsz := q2.size
  have k1 := hw.kept (G' := fun b => E.G b ∨ G' b) q2 (fun b hb => .inl hb) (fun b hb => hb.imp id fun q => (q3 b q).1) (fun b hb => by
    rcases hb with q | q
    · have := hw.good b q; omega
    · exact (q3 b q).2)
  exact ⟨v, _, d, H, rfl, k1, DRep.undata (E := ⟨fun b => E.G b ∨ G' b, E.σ, E.κ, E.ζ⟩) k1.wf (q4.move ⟨fun b hb => .inr hb, fun _ _ => rfl⟩ ⟨fun _ => Nat.le_refl _, fun _ _ => ⟨rfl, fun _ _ => rfl⟩⟩), hk⟩
theorem sorted_call {H : List Bk} {kb m : Nat} {k : IntKind} {F : Int → Option Int} {n : IE} {K : D → List Bk → Prop} (ks : List Int) (hk : H[kb]? = some (.cells [.mapr m])) (hm : H[m]? = some (.mp .i64 (.fi k F n))) (hF : ∀ x, x ∈ ks ↔ (F x).isSome = true) (hs : ks.Pairwise fun a b => a < b) (hn : n.den ≤ 1000) (hR : ∀ x ∈ ks, InR .i64 x)
    (hK : K (.slm 1 (some (.var ks.isEmpty)) intC ks) H) : CallP Tryz.prog 88 [.fn (.func 96) [] [.ptr kb 1 0]] H K := by
  refine CallP.fresh _ ⟨_, _, Tryz.func88, rfl, by kernel_rfl⟩ (fun B w E vs hh hl hw => ?_) hK
  obtain ⟨v, rfl, hv2⟩ := one_inv hl
  obtain ⟨v1, rfl, hd1⟩ := fn1_inv hv2
  have hblk := hw.heap kb _ hk
  have hblm := hw.heap m _ hm
  cases hd1 with
  | ptrs hk' =>
    rcases hblk with ⟨z1, _⟩ | ⟨z1, _⟩
    · omega
    · simp only [Bk.ver] at z1; omega
  | @ptr _ _ _ _ c hk' hsg =>
    rcases hblk with ⟨_, z2⟩ | ⟨z1, z2, _⟩
    · rw [z2] at hsg; cases hsg
    obtain ⟨cs, t, y1, y2, y3, y4⟩ := z2 c hsg
    obtain ⟨u, y5, y6⟩ := y4 0 _ rfl
    have hcl : c < w.heap.size := (hw.own kb c hsg).2.1
    have hcell : w.cell? ⟨c, 0, none⟩ = some u := by rw [cell_of_row w c 0 cs t (0, 0) y1]; exact y5
    cases y6 with
    | maps hk2 =>
      rcases hblm with ⟨z1, _⟩ | ⟨z1, _⟩
      · omega
      · simp only [Bk.ver] at z1; omega
    | @mapr _ _ c2 hk2 hs2 =>
      rcases hblm with ⟨_, z2⟩ | ⟨z1, z2, _⟩
      · rw [z2] at hs2; cases hs2
      obtain ⟨es, clock, g1, g2, g3, g4⟩ := z2 c2 hs2
      have hvals : ∀ e ∈ es.toList, ∃ x, e.key = .int .i64 x ∧ InR .i64 x ∧ x ∈ ks := fun e he => by
        obtain ⟨x, d, q1, q2, q3, _⟩ := g4.val e he
        refine ⟨x, q1, q2, (hF x).2 ?_⟩
        simp only [ME.den] at q3
        cases hFx : F x with
        | none => rw [hFx] at q3; cases q3
        | some y => rfl
      have hhas : ∀ x ∈ ks, ∃ e ∈ es.toList, e.key = .int .i64 x := fun x hx => by
        have := (hF x).1 hx
        cases hFx : F x with
        | none => rw [hFx] at this; cases this
        | some y => exact g4.has x (.int k (.var y)) (by simp only [ME.den, hFx])
      refine (sorted_world w c c2 es clock ks hcell hcl g1 (by simp only [ME.size] at g2; omega) hvals hhas g4.apart g4.clock hs).mono ?_
      rintro e w' ⟨v, rfl, hrow, hnil, hb⟩
      obtain ⟨G', h1, h2⟩ := slm_of_row (w := w) (w' := w') (B := w.heap.size) (l := ks) (v := v) (fun n => IE.var n) (fun x hx => hR x hx) hrow hnil rfl
      exact ⟨v, G', rfl, hb, h1, h2⟩
end Go.Proofs.YtaopkjgldokahaaGreatDoor
namespace Go.Proofs.YtaopkjgldokahaaGreatDoor
open Go.RowKit

/-! The riddle, in plain words. -/
theorem insI_mem (p x : Int) : ∀ l : List Int, x ∈ insI p l ↔ x = p ∨ x ∈ l
  | [] => by simp [insI]
  | a :: l => by
    have ih := insI_mem p x l
    simp only [insI]
    split
    · simp only [List.mem_cons, ih]
      constructor
      · rintro (h | h | h) <;> simp [h]
      · rintro (h | h | h) <;> simp [h]
    · split
      · next e =>
        subst e
        simp only [List.mem_cons]
        constructor
        · intro h; exact .inr h
        · rintro (h | h)
          · exact .inl h
          · exact h
      · simp
theorem insI_sorted (p : Int) : ∀ l : List Int, l.Pairwise (fun a b => a < b) → (insI p l).Pairwise (fun a b => a < b)
  | [], _ => by simp [insI]
  | a :: l, h => by
    obtain ⟨h1, h2⟩ := List.pairwise_cons.1 h
    have ih := insI_sorted p l h2
    simp only [insI]
    split
    · next q =>
      refine List.pairwise_cons.2 ⟨fun b hb => ?_, ih⟩
      rcases (insI_mem p b l).1 hb with rfl | hb
      · exact q
      · exact h1 b hb
    · split
      · exact h
      · refine List.pairwise_cons.2 ⟨fun b hb => ?_, h⟩
        rcases List.mem_cons.1 hb with rfl | hb
        · omega
        · have := h1 b hb; omega
theorem insI_has (p : Int) : ∀ l : List Int, l.Pairwise (fun a b => a < b) → (insI p l).length = if p ∈ l then l.length else l.length + 1
  | [], _ => by simp [insI]
  | a :: l, h => by
    obtain ⟨h1, h2⟩ := List.pairwise_cons.1 h
    have ih := insI_has p l h2
    simp only [insI]
    split
    · next q =>
      simp only [List.length_cons, ih, List.mem_cons]
      have : ¬ p = a := by omega
      simp only [this, false_or]
      split <;> simp
    · split
      · next e => simp [e]
      · next q e =>
        have : ¬ p ∈ a :: l := fun hm => by
          rcases List.mem_cons.1 hm with hm | hm
          · omega
          · have := h1 p hm; omega
        rw [if_neg this]
        simp
theorem people_sorted (I : List IssuedD) : (peopleL I).Pairwise (fun a b => a < b) := by
  unfold peopleL
  suffices h : ∀ (l : List IssuedD) (a : List Int), a.Pairwise (fun a b => a < b) → (l.foldl (fun l x => insI x.person l) a).Pairwise (fun a b => a < b) from h I [] .nil
  intro l
  induction l with
  | nil => intro a h; exact h
  | cons x l ih => intro a h; exact ih _ (insI_sorted _ _ h)
theorem people_mem (I : List IssuedD) (p : Int) : p ∈ peopleL I ↔ ∃ x ∈ I, x.person = p := by
  unfold peopleL
  suffices h : ∀ (l : List IssuedD) (a : List Int), p ∈ l.foldl (fun l x => insI x.person l) a ↔ p ∈ a ∨ ∃ x ∈ l, x.person = p by simpa using h I []
  intro l
  induction l with
  | nil => intro a; simp
  | cons x l ih =>
    intro a
    rw [List.foldl_cons, ih, insI_mem]
    constructor
    · rintro ((h | h) | ⟨y, h1, h2⟩)
      · exact .inr ⟨x, by simp, h.symm⟩
      · exact .inl h
      · exact .inr ⟨y, by simp [h1], h2⟩
    · rintro (h | ⟨y, h1, h2⟩)
      · exact .inl (.inr h)
      · rcases List.mem_cons.1 h1 with rfl | h1
        · exact .inl (.inl h2.symm)
        · exact .inr ⟨y, h1, h2⟩
/-- the copies of a person among the first k -/
def ownTo (I : List IssuedD) (k : Nat) (p : Int) (c : Nat) : Bool := decide (c < k) && (match I[c]? with | some x => decide (x.person = p) | none => false)
def ownF (I : List IssuedD) (k : Nat) (p : Int) : Option Int := if p ∈ peopleL (I.take k) then some (enc (ownTo I k p)) else none
theorem own_succ {I : List IssuedD} {k : Nat} {x : IssuedD} (h : I[k]? = some x) (p : Int) (c : Nat) : ownTo I (k + 1) p c = (ownTo I k p c || (decide (x.person = p) && oneB k c)) := by
  unfold ownTo oneB
  by_cases e : c = k
  · subst e
    rw [h]
    simp
  · have : decide (c < k + 1) = decide (c < k) := by
      rw [Bool.eq_iff_iff]; simp; omega
    rw [this]
    simp [e]
theorem ownF_succ {I : List IssuedD} {k : Nat} {x : IssuedD} (h : I[k]? = some x) (p : Int) : ownF I (k + 1) p = if p = x.person then some (enc (fun c => ownTo I k x.person c || oneB k c)) else ownF I k p := by
  unfold ownF
  rw [people_succ h]
  by_cases e : p = x.person
  · subst e
    rw [if_pos ((insI_mem _ _ _).2 (.inl rfl)), if_pos rfl]
    congr 2
    funext c
    rw [own_succ h]
    simp
  · rw [if_neg e]
    by_cases q : p ∈ peopleL (I.take k)
    · rw [if_pos ((insI_mem _ _ _).2 (.inr q)), if_pos q]
      congr 2
      funext c
      rw [own_succ h, decide_eq_false (fun q => e q.symm)]
      simp
    · rw [if_neg (fun h2 => ((insI_mem _ _ _).1 h2).elim e q), if_neg q]
theorem ownF_none {I : List IssuedD} {k : Nat} {p : Int} (h : ownF I k p = none) : p ∉ peopleL (I.take k) ∧ ∀ c, ownTo I k p c = false := by
  unfold ownF at h
  split at h
  · cases h
  · next q =>
    refine ⟨q, fun c => ?_⟩
    unfold ownTo
    by_cases hc : c < k
    · cases hx : I[c]? with
      | none => simp
      | some x =>
        have : x.person ≠ p := fun e => q ((people_mem _ _).2 ⟨x, List.mem_of_getElem? (i := c) (by rw [List.getElem?_take, if_pos hc]; exact hx), e⟩)
        simp [this]
    · simp [hc]
theorem ownF_some {I : List IssuedD} {k : Nat} {p y : Int} (h : ownF I k p = some y) : p ∈ peopleL (I.take k) ∧ y = enc (ownTo I k p) := by
  unfold ownF at h
  split at h
  · next q => cases h; exact ⟨q, rfl⟩
  · cases h
def cntP (I : List IssuedD) (k : Nat) : Nat := (peopleL (I.take k)).length
theorem cntP_succ {I : List IssuedD} {k : Nat} {x : IssuedD} (h : I[k]? = some x) : cntP I (k + 1) = if x.person ∈ peopleL (I.take k) then cntP I k else cntP I k + 1 := by
  unfold cntP
  rw [people_succ h, insI_has _ _ (people_sorted _)]
/-- which copies fit which sight -/
def optO (I : List IssuedD) (S : List SeenD) (j c : Nat) : Bool := match I[c]?, S[j]? with
  | some x, some s => fitsB x s
  | _, _ => false
/-- what is known when the first i sights, and the first k copies of the next, have been seen -/
def optTo (I : List IssuedD) (S : List SeenD) (i k j c : Nat) : Bool := (decide (j < i) || (decide (j = i) && decide (c < k))) && optO I S j c
theorem optTo_zero (I : List IssuedD) (S : List SeenD) (j c : Nat) : optTo I S 0 0 j c = false := by
  simp [optTo]
theorem optTo_row {I : List IssuedD} {S : List SeenD} {i k : Nat} (hk : I.length ≤ k) (j c : Nat) : optTo I S i k j c = optTo I S (i + 1) 0 j c := by
  unfold optTo
  by_cases h : c < k
  · rw [Bool.eq_iff_iff]
    simp only [Bool.and_eq_true, Bool.or_eq_true, decide_eq_true_eq]
    constructor
    · rintro ⟨h1, h2⟩; exact ⟨by omega, h2⟩
    · rintro ⟨h1, h2⟩; exact ⟨by omega, h2⟩
  · have : optO I S j c = false := by unfold optO; rw [List.getElem?_eq_none (by omega)]
    rw [this]
    simp
theorem optTo_succ {I : List IssuedD} {S : List SeenD} {i k : Nat} {x : IssuedD} {s : SeenD} (hx : I[k]? = some x) (hs : S[i]? = some s) (j c : Nat) : optTo I S i (k + 1) j c = (optTo I S i k j c || (decide (j = i) && (fitsB x s && oneB k c))) := by
  unfold optTo oneB
  by_cases e : j = i
  · subst e
    by_cases e2 : c = k
    · subst e2
      simp [optO, hx, hs]
    · have : decide (c < k + 1) = decide (c < k) := by
        rw [Bool.eq_iff_iff]; simp; omega
      rw [this]
      simp [e2]
  · simp [e]
theorem optTo_end (I : List IssuedD) (S : List SeenD) : optTo I S S.length 0 = optO I S := by
  funext j c
  unfold optTo
  by_cases h : j < S.length
  · simp [h]
  · have : optO I S j c = false := by
      unfold optO
      rw [List.getElem?_eq_none (l := S) (by omega)]
      split <;> simp_all
    rw [this]
    simp
/-- the groups of more than one sight, in the order of their first -/
def firstAt (S : List SeenD) (k : Nat) : Bool := !((List.range k).any fun j => decide (grpAt S j = grpAt S k))
def gsTo (S : List SeenD) : Nat → List (List Nat)
  | 0 => []
  | k + 1 => if firstAt S k = true ∧ 1 < (sightsL S (grpAt S k)).length then gsTo S k ++ [sightsL S (grpAt S k)] else gsTo S k
def setTo (S : List SeenD) (k : Nat) (g : Int) : Bool := (List.range k).any fun j => decide (grpAt S j = g)
theorem setTo_succ (S : List SeenD) (k : Nat) (g : Int) : setTo S (k + 1) g = (setTo S k g || decide (g = grpAt S k)) := by
  unfold setTo
  rw [List.range_succ, List.any_append]
  simp only [List.any_cons, List.any_nil, Bool.or_false]
  congr 1
  rw [Bool.eq_iff_iff]
  simp [eq_comm]
theorem first_set (S : List SeenD) (k : Nat) : firstAt S k = !setTo S k (grpAt S k) := rfl
def cntG (S : List SeenD) : Nat → Nat
  | 0 => 0
  | k + 1 => if firstAt S k then cntG S k + 1 else cntG S k
theorem cntG_le (S : List SeenD) : ∀ k, cntG S k ≤ k
  | 0 => Nat.le_refl _
  | k + 1 => by
    have := cntG_le S k
    simp only [cntG]
    split <;> omega
theorem gsTo_len (S : List SeenD) : ∀ k, (gsTo S k).length ≤ k
  | 0 => Nat.le_refl _
  | k + 1 => by
    have := gsTo_len S k
    simp only [gsTo]
    split
    · simp; omega
    · omega
abbrev ridOf (I : List IssuedD) (S : List SeenD) (nb : Option BE) : Rid where
  S := S
  nbS := nb
  gs := gsTo S S.length
  nbG := none
  PF := ownF I I.length
  nP := .nat (cntP I I.length)
  order := peopleL I
  nbO := some (.var (peopleL I).isEmpty)
  own := ownTo I I.length
theorem gsTo_mem (S : List SeenD) : ∀ k g, g ∈ gsTo S k ↔ ∃ i, i < k ∧ firstAt S i = true ∧ 1 < g.length ∧ g = sightsL S (grpAt S i)
  | 0, g => by simp [gsTo]
  | k + 1, g => by
    have ih := gsTo_mem S k g
    simp only [gsTo]
    split
    · next h =>
      rw [List.mem_append, ih, List.mem_singleton]
      constructor
      · rintro (⟨i, h1, h2⟩ | rfl)
        · exact ⟨i, by omega, h2⟩
        · exact ⟨k, by omega, h.1, h.2, rfl⟩
      · rintro ⟨i, h1, h2, h3, h4⟩
        rcases Nat.lt_or_ge i k with q | q
        · exact .inl ⟨i, q, h2, h3, h4⟩
        · rw [show i = k by omega] at h4
          exact .inr h4
    · next h =>
      rw [ih]
      constructor
      · rintro ⟨i, h1, h2⟩
        exact ⟨i, by omega, h2⟩
      · rintro ⟨i, h1, h2, h3, h4⟩
        rcases Nat.lt_or_ge i k with q | q
        · exact ⟨i, q, h2, h3, h4⟩
        · rw [show i = k by omega] at h2 h4
          exact absurd ⟨h2, by rw [← h4]; exact h3⟩ h
theorem sights_mem (S : List SeenD) (g : Int) (i : Nat) : i ∈ sightsL S g ↔ i < S.length ∧ grpAt S i = g := by
  unfold sightsL idxTo
  simp
theorem ridOf_ok (I : List IssuedD) (S : List SeenD) (nb : Option BE) (hI : I.length ≤ 64) (hS : S.length ≤ 16) : (ridOf I S nb).ok where
  pf := fun p hp => by
    show ownF I I.length p = _
    unfold ownF
    rw [List.take_of_length_le (Nat.le_refl _), if_pos hp]
  seen := hS
  ord := by
    have := people_len I I.length
    rw [List.take_of_length_le (Nat.le_refl _)] at this
    show (peopleL I).length ≤ 64
    omega
  gsl := by
    have := gsTo_len S S.length
    show (gsTo S S.length).length ≤ 16
    omega
  grp := fun g hg => by
    obtain ⟨i, _, _, _, rfl⟩ := (gsTo_mem S _ g).1 hg
    have := idxTo_len (grpAt S) (grpAt S i) S.length
    refine ⟨by show (idxTo _ _ _).length ≤ 16; omega, fun j hj => ?_⟩
    have := ((sights_mem _ _ _).1 hj).1
    omega
  one := fun g hg => by
    obtain ⟨i, _, _, h, rfl⟩ := (gsTo_mem S _ g).1 hg
    exact ⟨fun e => by rw [e] at h; simp at h, fun j hj => ((sights_mem _ _ _).1 hj).1⟩
  uniq := fun p q c h1 h2 => by
    simp only [ownTo, Bool.and_eq_true, decide_eq_true_eq] at h1 h2
    obtain ⟨_, h1⟩ := h1
    obtain ⟨_, h2⟩ := h2
    cases hx : I[c]? with
    | none => rw [hx] at h1; cases h1
    | some x =>
      rw [hx] at h1 h2
      simp only [decide_eq_true_eq] at h1 h2
      rw [← h1, ← h2]
  mem := fun p c h => by
    simp only [ownTo, Bool.and_eq_true, decide_eq_true_eq] at h
    obtain ⟨_, h⟩ := h
    cases hx : I[c]? with
    | none => rw [hx] at h; cases h
    | some x =>
      rw [hx] at h
      simp only [decide_eq_true_eq] at h
      exact (people_mem I p).2 ⟨x, List.mem_of_getElem? hx, h⟩
  nodup := (people_sorted I).imp fun h => by omega
end Go.Proofs.YtaopkjgldokahaaGreatDoor
namespace Go.Proofs.YtaopkjgldokahaaGreatDoor
open Go.RowKit

/-! The plain law: what the search finds is what the reference finds. -/
/-- an explanation that gives the group g to p (p < 0: to anybody) -/
structure Good (I : List IssuedD) (S : List SeenD) (g p : Int) (cs : List Int) : Prop where
  ex : Ex I S cs
  to : ∀ (i : Nat) (c : Int), cs[i]? = some c → 0 ≤ p → groupS S i = g → personI I c = p
def Ext (I : List IssuedD) (S : List SeenD) (g p : Int) (cs : List Int) : Prop := ∃ l, Good I S g p l ∧ l.length = S.length ∧ cs <+: l
theorem get_pre {cs l : List Int} (h : cs <+: l) {i : Nat} {c : Int} (hc : cs[i]? = some c) : l[i]? = some c := by
  obtain ⟨t, rfl⟩ := h
  rw [List.getElem?_append_left (List.getElem?_eq_some_iff.1 hc).1]
  exact hc
theorem Ex.pre {I : List IssuedD} {S : List SeenD} {cs l : List Int} (h : cs <+: l) (hl : Ex I S l) : Ex I S cs :=
  ⟨fun i c hc => hl.fit i c (get_pre h hc), fun k i a b hk ha hb => hl.apart k i a b hk (get_pre h ha) (get_pre h hb)⟩
theorem Good.pre {I : List IssuedD} {S : List SeenD} {g p : Int} {cs l : List Int} (h : cs <+: l) (hl : Good I S g p l) : Good I S g p cs :=
  ⟨hl.ex.pre h, fun i c hc => hl.to i c (get_pre h hc)⟩
theorem Ext.good {I : List IssuedD} {S : List SeenD} {g p : Int} {cs : List Int} (h : Ext I S g p cs) : Good I S g p cs := by
  obtain ⟨l, h1, _, h2⟩ := h
  exact h1.pre h2
theorem Ext.pre {I : List IssuedD} {S : List SeenD} {g p : Int} {cs l : List Int} (h : cs <+: l) (hl : Ext I S g p l) : Ext I S g p cs := by
  obtain ⟨m, h1, h2, h3⟩ := hl
  exact ⟨m, h1, h2, h.trans h3⟩
theorem Ext.next {I : List IssuedD} {S : List SeenD} {g p : Int} {cs : List Int} (h : Ext I S g p cs) (hl : cs.length < S.length) : ∃ c : Nat, c < I.length ∧ Ext I S g p (cs ++ [(c : Int)]) := by
  obtain ⟨l, h1, h2, t, rfl⟩ := h
  cases t with
  | nil => simp at h2; omega
  | cons a t =>
    have ha : (cs ++ a :: t)[cs.length]? = some a := by rw [List.getElem?_append_right (Nat.le_refl _)]; simp
    obtain ⟨q1, q2, _⟩ := h1.ex.fit _ _ ha
    refine ⟨a.toNat, by omega, cs ++ a :: t, h1, h2, t, ?_⟩
    rw [show ((a.toNat : Nat) : Int) = a by omega]
    simp
theorem findN_none {α : Type} {F : Nat → Option α} : ∀ (r k : Nat), (∀ c, k ≤ c → c < k + r → F c = none) → findN F r k = none
  | 0, _, _ => rfl
  | r + 1, k, h => by
    simp only [findN, h k (Nat.le_refl _) (by omega)]
    exact findN_none r (k + 1) fun c h1 h2 => h c (by omega) (by omega)
theorem findN_at {α : Type} {F : Nat → Option α} {y : α} : ∀ (r k c : Nat), k ≤ c → c < k + r → (∀ d, k ≤ d → d < c → F d = none) → F c = some y → findN F r k = some y
  | 0, k, c, h1, h2, _, _ => by omega
  | r + 1, k, c, h1, h2, h3, h4 => by
    by_cases e : k = c
    · subst e
      simp only [findN, h4]
    · simp only [findN, h3 k (Nat.le_refl _) (by omega)]
      exact findN_at r (k + 1) c (by omega) (by omega) (fun d h5 h6 => h3 d (by omega) h6) h4
theorem findN_some {α : Type} {F : Nat → Option α} {y : α} : ∀ (r k : Nat), findN F r k = some y → ∃ c, k ≤ c ∧ c < k + r ∧ F c = some y
  | 0, k, h => by cases h
  | r + 1, k, h => by
    simp only [findN] at h
    cases hF : F k with
    | some z => rw [hF] at h; simp only [Option.some.injEq] at h; subst h; exact ⟨k, Nat.le_refl _, by omega, hF⟩
    | none =>
      rw [hF] at h
      obtain ⟨c, h1, h2, h3⟩ := findN_some r (k + 1) h
      exact ⟨c, by omega, by omega, h3⟩
/-- what is tried next -/
theorem try_ext {I : List IssuedD} {S : List SeenD} {g p : Int} {cs : List Int} {c : Nat} {rec_ : List Int → Option (List Int)} (h : Good I S g p (cs ++ [(c : Int)])) : tryF I S g p rec_ cs c = rec_ (cs ++ [(c : Int)]) := by
  unfold tryF
  have h1 : skipB I S g p cs.length c = false := by
    unfold skipB
    rw [decide_eq_false]
    rintro ⟨q1, q2, q3⟩
    exact q3 (h.to cs.length c (by simp) q1 q2)
  rw [h1, explB_iff.2 h.ex]
  rfl
theorem try_good {I : List IssuedD} {S : List SeenD} {g p : Int} {cs : List Int} {c : Nat} {rec_ : List Int → Option (List Int)} {l : List Int} (hc : Good I S g p cs) (h : tryF I S g p rec_ cs c = some l) : Good I S g p (cs ++ [(c : Int)]) ∧ rec_ (cs ++ [(c : Int)]) = some l := by
  unfold tryF at h
  split at h
  · cases h
  · next hs =>
    split at h
    · next he =>
      refine ⟨⟨explB_iff.1 he, fun i d hd hp hg => ?_⟩, h⟩
      rcases Nat.lt_or_ge i cs.length with q | q
      · rw [List.getElem?_append_left q] at hd
        exact hc.to i d hd hp hg
      · have hi : i = cs.length := by
          have := (List.getElem?_eq_some_iff.1 hd).1
          simp at this
          omega
        subst hi
        simp at hd
        subst hd
        unfold skipB at hs
        simp only [decide_eq_true_eq, not_and, Classical.not_not] at hs
        exact hs hp hg
    · cases h
theorem first_some {I : List IssuedD} {S : List SeenD} {g p : Int} : ∀ (f : Nat) (cs l : List Int), cs.length + f = S.length → Good I S g p cs → firstR I S g p f cs = some l → Good I S g p l ∧ l.length = S.length ∧ cs <+: l
  | 0, cs, l, hl, hc, h => by
    simp only [firstR, Option.some.injEq] at h
    subst h
    exact ⟨hc, by omega, List.prefix_refl _⟩
  | f + 1, cs, l, hl, hc, h => by
    obtain ⟨c, _, _, h1⟩ := findN_some _ _ h
    obtain ⟨h2, h3⟩ := try_good hc h1
    obtain ⟨h4, h5, h6⟩ := first_some f (cs ++ [(c : Int)]) l (by simp; omega) h2 h3
    exact ⟨h4, h5, (List.prefix_append _ _).trans h6⟩
theorem first_iff {I : List IssuedD} {S : List SeenD} {g p : Int} : ∀ (f : Nat) (cs : List Int), cs.length + f = S.length → Good I S g p cs → ((firstR I S g p f cs).isSome = true ↔ Ext I S g p cs)
  | 0, cs, hl, hc => by
    simp only [firstR, Option.isSome_some, true_iff]
    exact ⟨cs, hc, by omega, List.prefix_refl _⟩
  | f + 1, cs, hl, hc => by
    constructor
    · intro h
      cases hf : firstR I S g p (f + 1) cs with
      | none => rw [hf] at h; cases h
      | some l =>
        obtain ⟨h1, h2, h3⟩ := first_some _ _ _ hl hc hf
        exact ⟨l, h1, h2, h3⟩
    · intro h
      obtain ⟨c, h1, h2⟩ := h.next (by omega)
      have h3 := (first_iff f (cs ++ [(c : Int)]) (by simp; omega) h2.good).2 h2
      cases hf : firstR I S g p (f + 1) cs with
      | some l => rfl
      | none =>
        exfalso
        have hno : ∀ (r k : Nat), findN (tryF I S g p (firstR I S g p f) cs) r k = none → ∀ d, k ≤ d → d < k + r → tryF I S g p (firstR I S g p f) cs d = none := fun r => by
          induction r with
          | zero => intro k _ d h1 h2; omega
          | succ r ih =>
            intro k hk d h1 h2
            simp only [findN] at hk
            split at hk
            · cases hk
            · next hn =>
              by_cases e : d = k
              · rw [e]; exact hn
              · exact ih (k + 1) hk d (by omega) (by omega)
        have h4 := hno _ _ hf c (Nat.zero_le _) (by omega)
        rw [try_ext h2.good] at h4
        rw [h4] at h3
        cases h3
/-- the next choice is the least that can be -/
theorem first_step {I : List IssuedD} {S : List SeenD} {g p : Int} {f : Nat} {cs : List Int} (hl : cs.length + (f + 1) = S.length) (hc : Good I S g p cs) {c : Nat} (h : Ext I S g p (cs ++ [(c : Int)])) (hc' : c < I.length) (hleast : ∀ d, d < c → ¬ Ext I S g p (cs ++ [(d : Int)])) :
    firstR I S g p (f + 1) cs = firstR I S g p f (cs ++ [(c : Int)]) := by
  have h3 := (first_iff f (cs ++ [(c : Int)]) (by simp; omega) h.good).2 h
  cases hf : firstR I S g p f (cs ++ [(c : Int)]) with
  | none => rw [hf] at h3; cases h3
  | some l =>
    refine findN_at _ _ c (Nat.zero_le _) (by omega) (fun d _ hd => ?_) (by rw [try_ext h.good]; exact hf)
    cases ht : tryF I S g p (firstR I S g p f) cs d with
    | none => rfl
    | some m =>
      obtain ⟨h4, h5⟩ := try_good hc ht
      exact absurd ((first_iff f (cs ++ [(d : Int)]) (by simp; omega) h4).1 (by rw [h5]; rfl)) (hleast d hd)
theorem good_nil (I : List IssuedD) (S : List SeenD) (g p : Int) : Good I S g p [] := ⟨⟨fun i c h => by simp at h, fun k i a b _ h => by simp at h⟩, fun i c h => by simp at h⟩
end Go.Proofs.YtaopkjgldokahaaGreatDoor
