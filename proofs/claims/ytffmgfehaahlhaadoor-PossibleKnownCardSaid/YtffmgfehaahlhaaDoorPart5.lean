/- Part 5 of the walks and laws that these claims rest on. No condition. -/
import Derived.ProofKit
import Derived.OpenShut
import Derived.ShutString
import Derived.ChangeOld
import Derived.Test.YtffmgfehaahlhaaDoorRows
import Derived.LaidMore
import Derived.Stop.Joined
import Derived.SizedLaws
import Derived.Test.YtffmgfehaahlhaaDoorPart4
set_option linter.all false
set_option linter.unusedSimpArgs false
set_option linter.unusedVariables false
set_option linter.unnecessarySimpa false
namespace Go.Proofs.YtffmgfehaahlhaaDoor
open Go.RowKit

/-! What the search finds, and what explanations are. -/
theorem grp_eq (S : List SeenD) (i : Nat) : grpAt S i = groupS S i := by
  unfold grpAt groupS
  cases S[i]? <;> rfl
theorem opt_iff {I : List IssuedD} {S : List SeenD} {j c : Nat} : optO I S j c = true ↔ c < I.length ∧ fitsI I S (c : Int) j = true := by
  unfold optO fitsI
  rw [Int.toNat_natCast]
  constructor
  · intro h
    cases hx : I[c]? with
    | none => rw [hx] at h; cases h
    | some x => rw [hx] at h; exact ⟨(List.getElem?_eq_some_iff.1 hx).1, h⟩
  · exact fun h => h.2
theorem own_iff {I : List IssuedD} {p : Int} {c : Nat} : ownTo I I.length p c = true ↔ c < I.length ∧ personI I (c : Int) = p := by
  unfold ownTo personI
  rw [Int.toNat_natCast]
  constructor
  · intro h
    simp only [Bool.and_eq_true, decide_eq_true_eq] at h
    refine ⟨h.1, ?_⟩
    cases hx : I[c]? with
    | none => rw [hx] at h; cases h.2
    | some x =>
      rw [hx] at h
      simpa using h.2
  · rintro ⟨h1, h2⟩
    have hx : I[c]? = some I[c] := List.getElem?_eq_getElem h1
    rw [hx] at h2 ⊢
    simp only at h2 ⊢
    simp [h1, h2]
/-- a way to give each sight a copy -/
structure Way (I : List IssuedD) (S : List SeenD) (f : Nat → Nat) : Prop where
  opt : ∀ j, j < S.length → optO I S j (f j) = true
  inj : ∀ a b, a < S.length → b < S.length → f a = f b → a = b
  grp : ∀ a b, a < S.length → b < S.length → groupS S a = groupS S b → personI I (f a : Int) = personI I (f b : Int)
theorem first_ex (S : List SeenD) : ∀ i, ∃ k, k ≤ i ∧ firstAt S k = true ∧ grpAt S k = grpAt S i := by
  intro i
  induction i using Nat.strongRecOn with
  | _ i ih =>
    cases h : firstAt S i with
    | true => exact ⟨i, Nat.le_refl _, h, rfl⟩
    | false =>
      unfold firstAt at h
      rw [Bool.not_eq_false'] at h
      obtain ⟨j, hj, he⟩ := List.any_eq_true.1 h
      have hj' : j < i := by simpa using hj
      simp only [decide_eq_true_eq] at he
      obtain ⟨k, h1, h2, h3⟩ := ih j hj'
      exact ⟨k, by omega, h2, h3.trans he⟩
theorem two_len {l : List Nat} {a b : Nat} (ha : a ∈ l) (hb : b ∈ l) (hne : a ≠ b) : 1 < l.length := by
  match l, ha, hb with
  | [x], ha, hb => simp at ha hb; omega
  | x :: y :: r, _, _ => simp
theorem sol_iff {I : List IssuedD} {S : List SeenD} {nb : Option BE} (hI : I.length ≤ 64) {o : Nat → Nat → Bool} (ho : SubO o (optO I S)) :
    Sol (ridOf I S nb) o ↔ ∃ f, Way I S f ∧ ∀ j, j < S.length → o j (f j) = true := by
  constructor
  · rintro ⟨f, h1, h2, h3⟩
    refine ⟨f, ⟨fun j hj => ho _ _ (h1 j hj).2, h2, fun a b ha hb hg => ?_⟩, fun j hj => (h1 j hj).2⟩
    by_cases e : a = b
    · rw [e]
    · obtain ⟨k, k1, k2, k3⟩ := first_ex S a
      have ma : a ∈ sightsL S (grpAt S k) := (sights_mem _ _ _).2 ⟨ha, k3.symm⟩
      have mb : b ∈ sightsL S (grpAt S k) := (sights_mem _ _ _).2 ⟨hb, by rw [k3, grp_eq, grp_eq, hg]⟩
      obtain ⟨p, hp⟩ := h3 (sightsL S (grpAt S k)) ((gsTo_mem S _ _).2 ⟨k, by show k < S.length; omega, k2, two_len ma mb e, rfl⟩)
      rw [(own_iff.1 (hp a ma)).2, (own_iff.1 (hp b mb)).2]
  · rintro ⟨f, hw, h1⟩
    refine ⟨f, fun j hj => ⟨?_, h1 j hj⟩, hw.inj, fun g hg => ?_⟩
    · have := (opt_iff.1 (hw.opt j hj)).1
      omega
    · obtain ⟨i, hi, _, _, rfl⟩ := (gsTo_mem S _ g).1 hg
      refine ⟨personI I (f i : Int), fun j hj => ?_⟩
      obtain ⟨m1, m2⟩ := (sights_mem _ _ _).1 hj
      exact own_iff.2 ⟨(opt_iff.1 (hw.opt j m1)).1, hw.grp j i m1 hi (by rw [← grp_eq, ← grp_eq, m2])⟩
theorem ext_iff {I : List IssuedD} {S : List SeenD} {g p : Int} {cs : List Int} (hcs : cs.length ≤ S.length) :
    Ext I S g p cs ↔ ∃ f, Way I S f ∧ (∀ j, j < S.length → 0 ≤ p → groupS S j = g → personI I (f j : Int) = p) ∧ ∀ j, j < cs.length → cs[j]? = some (f j : Int) := by
  constructor
  · rintro ⟨l, ⟨⟨h1, h2⟩, h3⟩, h4, h5⟩
    have hget : ∀ j, j < S.length → l[j]? = some (((l[j]?).getD 0).toNat : Int) := fun j hj => by
      have : l[j]? = some (l[j]'(by omega)) := List.getElem?_eq_getElem (by omega)
      rw [this]
      obtain ⟨q, _⟩ := h1 j _ this
      simp only [Option.getD_some, Option.some.injEq]
      omega
    refine ⟨fun j => ((l[j]?).getD 0).toNat, ⟨fun j hj => ?_, fun a b ha hb he => ?_, fun a b ha hb hg => ?_⟩, fun j hj hp hg => h3 j _ (hget j hj) hp hg, fun j hj => ?_⟩
    · obtain ⟨q1, q2, q3⟩ := h1 j _ (hget j hj)
      exact opt_iff.2 ⟨by omega, q3⟩
    · rcases Nat.lt_trichotomy a b with q | q | q
      · exact absurd (congrArg Int.ofNat he) (h2 a b _ _ q (hget a ha) (hget b hb)).1
      · exact q
      · exact absurd (congrArg Int.ofNat he.symm) (h2 b a _ _ q (hget b hb) (hget a ha)).1
    · rcases Nat.lt_trichotomy a b with q | q | q
      · exact (h2 a b _ _ q (hget a ha) (hget b hb)).2 hg
      · rw [q]
      · exact ((h2 b a _ _ q (hget b hb) (hget a ha)).2 hg.symm).symm
    · have hc : cs[j]? = some cs[j] := List.getElem?_eq_getElem hj
      have hl := get_pre h5 hc
      have := hget j (by omega)
      rw [hl] at this
      rw [hc]
      simp only [hl, Option.getD_some] at this ⊢
      exact this
  · rintro ⟨f, hw, h1, h2⟩
    have hl : ((List.range S.length).map fun j => (f j : Int)).length = S.length := by simp
    have hget : ∀ j c, ((List.range S.length).map fun j => (f j : Int))[j]? = some c → j < S.length ∧ c = (f j : Int) := fun j c h => by
      have hj := (List.getElem?_eq_some_iff.1 h).1
      rw [hl] at hj
      refine ⟨hj, ?_⟩
      rw [List.getElem?_map, List.getElem?_range hj] at h
      simpa using h.symm
    refine ⟨(List.range S.length).map fun j => (f j : Int), ⟨⟨fun i c hc => ?_, fun k i a b hk ha hb => ?_⟩, fun i c hc hp hg => ?_⟩, hl, ?_⟩
    · obtain ⟨q1, rfl⟩ := hget i c hc
      obtain ⟨q2, q3⟩ := opt_iff.1 (hw.opt i q1)
      exact ⟨by omega, by omega, q3⟩
    · obtain ⟨q1, rfl⟩ := hget k a ha
      obtain ⟨q2, rfl⟩ := hget i b hb
      refine ⟨fun e => ?_, fun hg => hw.grp k i q1 q2 hg⟩
      have := hw.inj k i q1 q2 (by omega)
      omega
    · obtain ⟨q1, rfl⟩ := hget i c hc
      exact h1 i q1 hp hg
    · rw [List.prefix_iff_eq_take]
      refine List.ext_getElem? fun j => ?_
      rw [List.getElem?_take]
      split
      · next hj =>
        rw [h2 j hj, List.getElem?_map, List.getElem?_range (by omega)]
        rfl
      · next hj => rw [List.getElem?_eq_none (by omega)]
/-- a group is given to a person -/
theorem sol_of {I : List IssuedD} {S : List SeenD} {nb : Option BE} (hI : I.length ≤ 64) {g p : Int} (hp : 0 ≤ p) : Sol (ridOf I S nb) (resB (optO I S) (sightsL S g) (ownTo I I.length p)) ↔ Ext I S g p [] := by
  rw [sol_iff hI (resB_sub _ _ _), ext_iff (Nat.zero_le _)]
  constructor
  · rintro ⟨f, hw, h⟩
    refine ⟨f, hw, fun j hj _ hg => ?_, fun j hj => by simp at hj⟩
    have := h j hj
    unfold resB at this
    rw [hw.opt j hj, Bool.true_and, decide_eq_true ((sights_mem _ _ _).2 ⟨hj, by rw [grp_eq]; exact hg⟩)] at this
    simp only [Bool.not_true, Bool.false_or] at this
    exact (own_iff.1 this).2
  · rintro ⟨f, hw, h, _⟩
    refine ⟨f, hw, fun j hj => ?_⟩
    unfold resB
    rw [hw.opt j hj, Bool.true_and]
    by_cases e : j ∈ sightsL S g
    · rw [decide_eq_true e, own_iff.2 ⟨(opt_iff.1 (hw.opt j hj)).1, h j hj hp (by rw [← grp_eq]; exact ((sights_mem _ _ _).1 e).2)⟩]
      rfl
    · rw [decide_eq_false e]
      rfl
theorem sol_all {I : List IssuedD} {S : List SeenD} {nb : Option BE} (hI : I.length ≤ 64) : Sol (ridOf I S nb) (optO I S) ↔ Ext I S 0 (-1) [] := by
  rw [sol_iff hI (SubO.refl _), ext_iff (Nat.zero_le _)]
  constructor
  · rintro ⟨f, hw, h⟩
    exact ⟨f, hw, fun j hj q => by omega, fun j hj => by simp at hj⟩
  · rintro ⟨f, hw, _, _⟩
    exact ⟨f, hw, hw.opt⟩
/-- the first sights have been given their copies -/
structure Pre (I : List IssuedD) (S : List SeenD) (k : Nat) (o : Nat → Nat → Bool) (cs : List Int) : Prop where
  len : cs.length = k
  get : ∀ j, j < k → ∃ c : Nat, cs[j]? = some (c : Int) ∧ optO I S j c = true
  opt : ∀ j c, o j c = if j < k then decide (cs[j]? = some (c : Int)) else optO I S j c
theorem Pre.sub {I : List IssuedD} {S : List SeenD} {k : Nat} {o : Nat → Nat → Bool} {cs : List Int} (h : Pre I S k o cs) : SubO o (optO I S) := fun j c hc => by
  rw [h.opt] at hc
  split at hc
  · next hj =>
    obtain ⟨d, h1, h2⟩ := h.get j hj
    simp only [decide_eq_true_eq, h1, Option.some.injEq] at hc
    rw [show c = d by omega]
    exact h2
  · exact hc
theorem sol_pre {I : List IssuedD} {S : List SeenD} {nb : Option BE} (hI : I.length ≤ 64) {k : Nat} {o : Nat → Nat → Bool} {cs : List Int} (h : Pre I S k o cs) (hk : k ≤ S.length) : Sol (ridOf I S nb) o ↔ Ext I S 0 (-1) cs := by
  rw [sol_iff hI h.sub, ext_iff (by rw [h.len]; exact hk)]
  constructor
  · rintro ⟨f, hw, h1⟩
    refine ⟨f, hw, fun j hj q => by omega, fun j hj => ?_⟩
    have h2 := h1 j (by have := h.len; omega)
    rw [h.opt, if_pos (by have := h.len; omega)] at h2
    simpa using h2
  · rintro ⟨f, hw, _, h1⟩
    refine ⟨f, hw, fun j hj => ?_⟩
    rw [h.opt]
    split
    · next hjk => simpa using h1 j (by rw [h.len]; exact hjk)
    · exact hw.opt j hj
theorem Pre.next {I : List IssuedD} {S : List SeenD} {k c : Nat} {o : Nat → Nat → Bool} {cs : List Int} (h : Pre I S k o cs) (hc : optO I S k c = true) : Pre I S (k + 1) (setO o k c) (cs ++ [(c : Int)]) := by
  refine ⟨by simp [h.len], fun j hj => ?_, fun j d => ?_⟩
  · rcases Nat.lt_or_ge j k with q | q
    · obtain ⟨d, h1, h2⟩ := h.get j q
      exact ⟨d, by rw [List.getElem?_append_left (by rw [h.len]; exact q)]; exact h1, h2⟩
    · obtain rfl : j = k := by omega
      exact ⟨c, by rw [List.getElem?_append_right (by rw [h.len]; exact Nat.le_refl _), h.len]; simp, hc⟩
  · unfold setO
    by_cases e : j = k
    · subst e
      rw [if_pos rfl, if_pos (by omega), List.getElem?_append_right (by rw [h.len]; exact Nat.le_refl _), h.len]
      unfold oneB
      simp only [Nat.sub_self, List.getElem?_cons_zero, Option.some.injEq]
      rw [Bool.eq_iff_iff]
      simp only [beq_iff_eq, decide_eq_true_eq]
      omega
    · rw [if_neg e, h.opt]
      by_cases q : j < k
      · rw [if_pos q, if_pos (by omega), List.getElem?_append_left (by rw [h.len]; exact q)]
      · rw [if_neg q, if_neg (by omega)]
theorem any_first {I : List IssuedD} {S : List SeenD} {nb : Option BE} (hI : I.length ≤ 64) {sv : (Nat → Nat → Bool) → Bool} (hsv : ∀ o, sv o = true ↔ Sol (ridOf I S nb) o) (h0 : Ext I S 0 (-1) []) : ∀ k, k ≤ S.length →
    Pre I S k (anyTo sv I.length (optO I S) k).1 (anyTo sv I.length (optO I S) k).2 ∧ Ext I S 0 (-1) (anyTo sv I.length (optO I S) k).2 ∧ firstR I S 0 (-1) S.length [] = firstR I S 0 (-1) (S.length - k) (anyTo sv I.length (optO I S) k).2
  | 0, _ => ⟨⟨rfl, fun j hj => by omega, fun j c => by simp [anyTo]⟩, h0, rfl⟩
  | k + 1, hk => by
    obtain ⟨h1, h2, h3⟩ := any_first hI hsv h0 k (by omega)
    simp only [anyTo]
    generalize hx : anyTo sv I.length (optO I S) k = x at h1 h2 h3
    obtain ⟨o, cs⟩ := x
    simp only at h1 h2 h3
    have hcl := h1.len
    -- the least copy that can be
    obtain ⟨c, hc1, hc2, hc3⟩ : ∃ c : Nat, c < I.length ∧ Ext I S 0 (-1) (cs ++ [(c : Int)]) ∧ ∀ d, d < c → ¬ Ext I S 0 (-1) (cs ++ [(d : Int)]) := by
      obtain ⟨c, q1, q2⟩ := h2.next (by omega)
      have key : ∀ n : Nat, ∀ c, c ≤ n → c < I.length → Ext I S 0 (-1) (cs ++ [(c : Int)]) → ∃ c : Nat, c < I.length ∧ Ext I S 0 (-1) (cs ++ [(c : Int)]) ∧ ∀ d, d < c → ¬ Ext I S 0 (-1) (cs ++ [(d : Int)]) := fun n => by
        induction n with
        | zero => intro c h q1 q2; exact ⟨c, q1, q2, fun d hd => by omega⟩
        | succ n ih =>
          intro c h q1 q2
          by_cases e : ∃ d, d < c ∧ Ext I S 0 (-1) (cs ++ [(d : Int)])
          · obtain ⟨d, e1, e2⟩ := e
            exact ih d (by omega) (by omega) e2
          · exact ⟨c, q1, q2, fun d hd hE => e ⟨d, hd, hE⟩⟩
      exact key c c (Nat.le_refl _) q1 q2
    have hopt : ∀ d : Nat, Ext I S 0 (-1) (cs ++ [(d : Int)]) → optO I S k d = true := fun d hd => by
      have hg := hd.good.ex.fit cs.length (d : Int) (by simp)
      rw [hcl] at hg
      exact opt_iff.2 ⟨by omega, hg.2.2⟩
    have hok : o k = optO I S k := by
      funext d
      rw [h1.opt, if_neg (Nat.lt_irrefl _)]
    have hdec : ∀ d : Nat, Decidable (Ext I S 0 (-1) (cs ++ [(d : Int)])) := fun d => Classical.propDecidable _
    have hpick : ∀ d, pickF sv o k d = if Ext I S 0 (-1) (cs ++ [(d : Int)]) then some d else none := fun d => by
      unfold pickF
      by_cases e : Ext I S 0 (-1) (cs ++ [(d : Int)])
      · have e1 := hopt d e
        rw [if_pos e, if_pos ⟨by rw [hok]; exact e1, (hsv _).2 ((sol_pre hI (h1.next e1) (by omega)).2 e)⟩]
      · rw [if_neg e, if_neg]
        rintro ⟨q1, q2⟩
        rw [hok] at q1
        exact e ((sol_pre hI (h1.next q1) (by omega)).1 ((hsv _).1 q2))
    have hfind : findN (pickF sv o k) I.length 0 = some c := findN_at _ _ c (Nat.zero_le _) (by omega) (fun d _ hd => by rw [hpick, if_neg (hc3 d hd)]) (by rw [hpick, if_pos hc2])
    unfold anyStep
    simp only [hfind]
    refine ⟨h1.next (hopt c hc2), hc2, ?_⟩
    rw [h3, show S.length - k = (S.length - (k + 1)) + 1 by omega]
    exact first_step (by omega) h2.good hc2 hc1 hc3
/-- what Any finds is what the reference finds -/
theorem any_eq {I : List IssuedD} {S : List SeenD} {nb : Option BE} (hI : I.length ≤ 64) {sv : (Nat → Nat → Bool) → Bool} (hsv : ∀ o, sv o = true ↔ Sol (ridOf I S nb) o) (h0 : sv (optO I S) = true) : firstR I S 0 (-1) S.length [] = some (anyTo sv I.length (optO I S) S.length).2 := by
  obtain ⟨_, _, h⟩ := any_first hI hsv ((sol_all hI).1 ((hsv _).1 h0)) S.length (Nat.le_refl _)
  rw [h, Nat.sub_self]
  rfl
theorem any_no {I : List IssuedD} {S : List SeenD} {nb : Option BE} (hI : I.length ≤ 64) {sv : (Nat → Nat → Bool) → Bool} (hsv : ∀ o, sv o = true ↔ Sol (ridOf I S nb) o) (h0 : sv (optO I S) = false) : firstR I S 0 (-1) S.length [] = none := by
  cases h : firstR I S 0 (-1) S.length [] with
  | none => rfl
  | some l =>
    have := (first_iff S.length [] (by simp) (good_nil I S 0 (-1))).1 (by rw [h]; rfl)
    rw [(hsv _).2 ((sol_all hI).2 this)] at h0
    cases h0
end Go.Proofs.YtffmgfehaahlhaaDoor
namespace Go.Proofs.YtffmgfehaahlhaaDoor
open Go.RowKit

/-! Of and Any: what they answer. -/
noncomputable def solB (r : Rid) (o : Nat → Nat → Bool) : Bool := @decide (Sol r o) (Classical.propDecidable _)
theorem solB_iff (r : Rid) (o : Nat → Nat → Bool) : solB r o = true ↔ Sol r o := by unfold solB; simp
theorem opt_low {I : List IssuedD} {S : List SeenD} {i c : Nat} (h : optO I S i c = true) : i < S.length := by
  unfold optO at h
  cases hs : S[i]? with
  | none => rw [hs] at h; split at h <;> simp_all
  | some s => exact (List.getElem?_eq_some_iff.1 hs).1
theorem occ_len (S : List SeenD) (g : Int) : (sightsL S g).length = 0 ↔ occB g S = false := by
  rw [List.length_eq_zero_iff, occB, List.any_eq_false]
  constructor
  · intro h s hs hg
    obtain ⟨i, hi, rfl⟩ := List.getElem_of_mem hs
    have : i ∈ sightsL S g := (sights_mem _ _ _).2 ⟨hi, by
      simp only [decide_eq_true_eq] at hg
      unfold grpAt
      rw [List.getElem?_eq_getElem hi]
      exact hg⟩
    rw [h] at this
    cases this
  · intro h
    refine List.eq_nil_iff_forall_not_mem.2 fun i hi => ?_
    obtain ⟨h1, h2⟩ := (sights_mem _ _ _).1 hi
    refine h S[i] (List.getElem_mem _) ?_
    unfold grpAt at h2
    rw [List.getElem?_eq_getElem h1] at h2
    simpa using h2
theorem check_issued {I : List IssuedD} {S : List SeenD} (h : checkB I S = true) {x : IssuedD} (hx : x ∈ I) : 0 ≤ x.person ∧ x.person < 4096 := by
  simp only [checkB, Bool.and_eq_true, decide_eq_true_eq, List.all_eq_true] at h
  have := h.2.1 x hx
  simp only [issB, Bool.and_eq_true, decide_eq_true_eq] at this
  exact ⟨this.1.2.1, this.1.2.2.1⟩
def ofA (I : List IssuedD) (S : List SeenD) (g : Int) : List Int := if okOf I S g then ofR I S g else []
theorem of_filter {I : List IssuedD} {S : List SeenD} {nb : Option BE} {g : Int} (h : checkB I S = true) (hI : I.length ≤ 64) :
    (ableL (ridOf I S nb) (optO I S) (sightsL S g)).filter (fun p => solB (ridOf I S nb) (resB (optO I S) (sightsL S g) (ownTo I I.length p))) = ofR I S g := by
  unfold ableL ofR
  rw [List.filter_filter]
  refine List.filter_congr fun p hp => ?_
  obtain ⟨x, hx, rfl⟩ := (people_mem I p).1 hp
  have hp0 := (check_issued h hx).1
  have key : solB (ridOf I S nb) (resB (optO I S) (sightsL S g) (ownTo I I.length x.person)) = !(firstR I S g x.person S.length []).isNone := by
    rw [Bool.eq_iff_iff, solB_iff, sol_of hI hp0, ← first_iff S.length [] (by simp) (good_nil _ _ _ _)]
    cases firstR I S g x.person S.length [] <;> simp
  rw [key]
  cases hf : firstR I S g x.person S.length [] with
  | none => simp
  | some l =>
    have hE := (first_iff S.length [] (by simp) (good_nil I S g x.person)).1 (by rw [hf]; rfl)
    obtain ⟨f, hw, h1, _⟩ := (ext_iff (Nat.zero_le _)).1 hE
    simp only [Option.isNone_some, Bool.not_false, Bool.true_and]
    unfold ableB
    rw [List.all_eq_true]
    intro i hi
    obtain ⟨m1, m2⟩ := (sights_mem _ _ _).1 hi
    have hc := (opt_iff.1 (hw.opt i m1)).1
    exact meetB_iff.2 ⟨f i, by omega, hw.opt i m1, own_iff.2 ⟨hc, h1 i m1 hp0 (by rw [← grp_eq]; exact m2)⟩⟩
set_option maxRecDepth 100000 in
set_option maxHeartbeats 4000000 in
theorem Of_pure (I : List IssuedD) (S : List SeenD) (g : Int) (nbI nbS : Option BE) (hI : BigI I) (hS : BigS S) :
    Pure Tryd.prog 18 [.slm 3 nbI IssuedD.c I, .slm 4 nbS SeenD.c S, i64 g] (.tup [.slm 1 (some (.var (decide ((ofA I S g).length = 0)))) intC (ofA I S g), i64 (if okOf I S g then 0 else 300)]) := by
  have hC := Check_pure I S nbI nbS hI hS
  have hb : checkB I S = true → I.length ≤ 64 ∧ S.length ≤ 16 := fun h => by
    simp only [checkB, Bool.and_eq_true, decide_eq_true_eq] at h
    exact h.1
  have hok : checkB I S = true → (ridOf I S nbS).ok := fun h => ridOf_ok I S nbS (hb h).1 (hb h).2
  have hsl : ∀ g, (sightsL S g).length ≤ S.length := fun g => idxTo_len _ _ _
  have hG : checkB I S = true → (sightsL S g).length ≤ 16 ∧ ∀ i ∈ sightsL S g, i < 16 := fun h => ⟨by have := hsl g; have := (hb h).2; omega, fun i hi => by have := ((sights_mem _ _ _).1 hi).1; have := (hb h).2; omega⟩
  refine Of_walk I S nbI nbS g (checkB I S) _ rfl hC (sightsL S g) hG none (some (.var (peopleL I).isEmpty)) (gsTo S S.length) (ownF I I.length) (.nat (cntP I I.length)) (peopleL I) enc and_enc (optO I S) (ownTo I I.length)
    (fun h => sights_pureF S nbS g (by have := (hb h).2; omega))
    (fun h => newRiddle_pure I S nbI nbS (hb h).1 (hb h).2 (fun x hx => ⟨hI.vals x hx, by have := check_issued h hx; unfold InR; simp [IntKind.min, IntKind.max, IntKind.signed, IntKind.bits]; omega⟩) (fun s hs => ⟨hS.fields s hs, hS.vals s hs⟩))
    (ableL (ridOf I S nbS) (optO I S) (sightsL S g)) (ableL (ridOf I S nbS) (optO I S) (sightsL S g)).isEmpty
    (fun h => able_pureF (ridOf I S nbS) (hok h) (optO I S) (sightsL S g) (hG h))
    (fun h => by
      have := List.length_filter_le (ableB (ridOf I S nbS) (optO I S) (sightsL S g)) (peopleL I)
      have h2 : (peopleL I).length ≤ 64 := (hok h).ord
      exact Nat.le_trans this h2)
    (fun h p hp => (hok h).pf p (List.mem_filter.1 hp).1)
    (fun p => solB (ridOf I S nbS) (resB (optO I S) (sightsL S g) (ownTo I I.length p)))
    (fun h p hp f hf => soluble_pure (ridOf I S nbS) (hok h) f (fun i c hic => by
      rw [hf] at hic
      have := opt_low (resB_sub _ _ _ i c hic)
      have := (hb h).2
      omega) _ (by rw [hf]; exact solB_iff _ _) _ fun _ => rfl)
    _ _ _ ?_ ?_ ?_
  · intro h
    unfold ofA okOf
    rw [h]
    exact ⟨rfl, rfl, rfl⟩
  · intro h hl
    have := (occ_len S g).1 hl
    unfold ofA okOf
    rw [h, this]
    exact ⟨rfl, rfl, rfl⟩
  · intro h hl
    have ho : occB g S = true := by
      cases hq : occB g S with
      | true => rfl
      | false => exact absurd ((occ_len S g).2 hq) hl
    rw [of_filter h (hb h).1]
    unfold ofA okOf
    rw [h, ho]
    exact ⟨rfl, rfl, rfl⟩
/-- what Any answers -/
def anyA (I : List IssuedD) (S : List SeenD) : Option (List Int) := if checkB I S then firstR I S 0 (-1) S.length [] else none
set_option maxRecDepth 100000 in
set_option maxHeartbeats 4000000 in
theorem Any_pure (I : List IssuedD) (S : List SeenD) (nbI nbS : Option BE) (hI : BigI I) (hS : BigS S) :
    Pure Tryd.prog 20 [.slm 3 nbI IssuedD.c I, .slm 4 nbS SeenD.c S] (.tup [.slm 1 (some (.var (decide (((anyA I S).getD []).length = 0)))) intC ((anyA I S).getD []), boolD (anyA I S).isSome, i64 (if checkB I S then 0 else 300)]) := by
  have hC := Check_pure I S nbI nbS hI hS
  have hb : checkB I S = true → I.length ≤ 64 ∧ S.length ≤ 16 := fun h => by
    simp only [checkB, Bool.and_eq_true, decide_eq_true_eq] at h
    exact h.1
  have hok : checkB I S = true → (ridOf I S nbS).ok := fun h => ridOf_ok I S nbS (hb h).1 (hb h).2
  refine Any_walk I S nbI nbS (checkB I S) _ rfl hC none (some (.var (peopleL I).isEmpty)) (gsTo S S.length) (ownF I I.length) (.nat (cntP I I.length)) (peopleL I) enc (fun a c hc => shr_enc a hc) (fun c hc => shl_one hc) (optO I S) hb
    (fun h => newRiddle_pure I S nbI nbS (hb h).1 (hb h).2 (fun x hx => ⟨hI.vals x hx, by have := check_issued h hx; unfold InR; simp [IntKind.min, IntKind.max, IntKind.signed, IntKind.bits]; omega⟩) (fun s hs => ⟨hS.fields s hs, hS.vals s hs⟩))
    (solB (ridOf I S nbS)) (fun h o ho => soluble_pure (ridOf I S nbS) (hok h) o ho _ (solB_iff _ _) _ fun _ => rfl)
    (fun h i c hic => by have := opt_low hic; have := (hb h).2; omega) _ _ _ _ ?_ ?_ ?_
  · intro h
    unfold anyA
    rw [h]
    exact ⟨rfl, rfl, rfl, rfl⟩
  · intro h hs
    unfold anyA
    rw [h, if_pos rfl, any_no (hb h).1 (solB_iff _) hs]
    exact ⟨rfl, rfl, rfl, rfl⟩
  · intro h hs
    unfold anyA
    rw [h, if_pos rfl, any_eq (hb h).1 (solB_iff _) hs]
    exact ⟨rfl, rfl, rfl, rfl⟩
end Go.Proofs.YtffmgfehaahlhaaDoor
namespace Go.Proofs.YtffmgfehaahlhaaDoor
open Go.RowKit

/-! The examples of the chapter: the calls. -/
def DLe (d d' : D) : Prop := ∀ (w : World) (E : Env) (v : Value), DRep w E d v → DRep w E d' v
inductive DsLe : List D → List D → Prop
  | nil : DsLe [] []
  | cons {d d' : D} {l l' : List D} (h : DLe d d') (r : DsLe l l') : DsLe (d :: l) (d' :: l')
theorem DsLe.get {l l' : List D} (h : DsLe l l') : l.length = l'.length ∧ ∀ (i : Nat) d d', l[i]? = some d → l'[i]? = some d' → DLe d d' := by
  induction h with
  | nil => exact ⟨rfl, fun i d d' h => by simp at h⟩
  | cons h r ih =>
    refine ⟨by simp [ih.1], fun i d d' hd hd' => ?_⟩
    cases i with
    | zero => simp at hd hd'; subst hd; subst hd'; exact h
    | succ i => exact ih.2 i d d' (by simpa using hd) (by simpa using hd')
theorem DEq.le {d d' : D} (h : DEq d d') : DLe d d' := fun _ _ _ hr => h.rep hr
theorem DLe.refl (d : D) : DLe d d := fun _ _ _ h => h
theorem DLe.lit (k : IntKind) (x : Int) : DLe (.int k (.lit x)) (.int k (.var x)) := by
  have h : DEq (.int k (.lit x)) (.int k (.var x)) := .int rfl
  exact h.le
theorem Pure.argsL {P : Program} {f : Nat} {args args' : List D} {d : D} (hs : DsLe args args') (h : Pure P f args' d) : Pure P f args d := by
  obtain ⟨h1, h2⟩ := hs.get
  refine ⟨h.1, fun w G vs hL hG hv => h.2 w G vs hL hG ⟨by rw [← h1]; exact hv.1, fun i x v hx hv' => ?_⟩⟩
  have hlt := (List.getElem?_eq_some_iff.1 hx).1
  have hx0 : args[i]? = some (args[i]'(by omega)) := List.getElem?_eq_getElem (by omega)
  exact h2 i _ x hx0 hx w _ v (hv.2 i _ v hx0 hv')
theorem Pure.resL {P : Program} {f : Nat} {args : List D} {d d' : D} (h : Pure P f args d) (he : DLe d d') : Pure P f args d' := by
  refine ⟨h.1, fun w G vs hL hG hv => (h.2 w G vs hL hG hv).mono ?_⟩
  rintro e w' ⟨v, G', q1, q2, q3, q4, q5, q6⟩
  exact ⟨v, G', q1, q2, q3, q4, q5, he _ _ _ q6⟩
inductive EsLe {α : Type} (c : α → List D) : List (List D) → List α → Prop
  | nil : EsLe c [] []
  | cons {e : List D} {x : α} {es : List (List D)} {l : List α} (h : DsLe e (c x)) (r : EsLe c es l) : EsLe c (e :: es) (x :: l)
theorem EsLe.get {α : Type} {c : α → List D} {es : List (List D)} {l : List α} (h : EsLe c es l) : es.length = l.length ∧ ∀ (i : Nat) e x, es[i]? = some e → l[i]? = some x → DsLe e (c x) := by
  induction h with
  | nil => exact ⟨rfl, fun i d d' h => by simp at h⟩
  | cons h r ih =>
    refine ⟨by simp [ih.1], fun i d d' hd hd' => ?_⟩
    cases i with
    | zero => simp at hd hd'; subst hd; subst hd'; exact h
    | succ i => exact ih.2 i d d' (by simpa using hd) (by simpa using hd')
theorem EsLe.map {α β : Type} {c : α → List D} (f : β → List D) (g : β → α) (h : ∀ y, DsLe (f y) (c (g y))) : ∀ l : List β, EsLe c (l.map f) (l.map g)
  | [] => .nil
  | y :: l => .cons (h y) (EsLe.map f g h l)
theorem EsLe.le {α : Type} {c : α → List D} {es : List (List D)} {l : List α} {n : Nat} {nb : Option BE} (h : EsLe c es l) (hn : ∀ e, nb = some e → e.den = false) : DLe (.sll n es) (.slm n nb c l) := by
  intro w E v hr
  obtain ⟨h1, h2⟩ := h.get
  generalize hd : D.sll n es = d at hr
  cases hr with
  | @sll E n es a cap u hc hm hx ha hh =>
    cases hd
    rw [h1] at hc ⊢
    obtain ⟨b, base, q1, q2, q3⟩ := ha
    refine .slm u (fun e he => by rw [hn e he, q1]; rfl) hc hm (fun x hx' => ?_) (fun _ => ⟨b, base, q1, q2, fun i j hi hj => q3 i j (by omega) hj⟩) fun i x j d hx' hd' => ?_
    · obtain ⟨i, hi, rfl⟩ := List.getElem_of_mem hx'
      have he : es[i]? = some (es[i]'(by omega)) := List.getElem?_eq_getElem (by omega)
      have := h2 i _ _ he (List.getElem?_eq_getElem hi)
      rw [← this.get.1]
      exact hx _ (List.getElem_mem _)
    · have hi := (List.getElem?_eq_some_iff.1 hx').1
      have he : es[i]? = some (es[i]'(by omega)) := List.getElem?_eq_getElem (by omega)
      have hs := (h2 i _ _ he hx').get
      have hj := (List.getElem?_eq_some_iff.1 hd').1
      have hd0 : (es[i]'(by omega))[j]? = some ((es[i]'(by omega))[j]'(by omega)) := List.getElem?_eq_getElem (by omega)
      exact hs.2 j _ _ hd0 hd' w _ _ (hh i _ j _ he hd0)
  | _ => cases hd
def litI (l : List Int) : D := .sll 1 (l.map fun x => [.int .i64 (.lit x)])
theorem litI_le (l : List Int) {nb : Option BE} (hn : ∀ e, nb = some e → e.den = false) : DLe (litI l) (.slm 1 nb intC l) := by
  have := EsLe.map (c := intC) (fun x : Int => [.int .i64 (.lit x)]) id (fun x => .cons (DLe.lit _ _) .nil) l
  rw [List.map_id] at this
  exact this.le hn
/-- an issued copy, a sight, as they are written in the text -/
def litX (x : Int × Int × List Int) : List D := [.int .i64 (.lit x.1), .int .i64 (.lit x.2.1), litI x.2.2]
def issX (x : Int × Int × List Int) : IssuedD := ⟨x.1, x.2.1, false, x.2.2⟩
theorem litX_le (x : Int × Int × List Int) : DsLe (litX x) (issX x).c := .cons (DLe.lit _ _) (.cons (DLe.lit _ _) (.cons (litI_le _ fun e h => by cases h; rfl) .nil))
def litS (x : Int × Int × List Int × List Int) : List D := [.int .i64 (.lit x.1), .int .i64 (.lit x.2.1), litI x.2.2.1, litI x.2.2.2]
def seenX (x : Int × Int × List Int × List Int) : SeenD := ⟨x.1, x.2.1, false, x.2.2.1, false, x.2.2.2⟩
theorem litS_le (x : Int × Int × List Int × List Int) : DsLe (litS x) (seenX x).c := .cons (DLe.lit _ _) (.cons (DLe.lit _ _) (.cons (litI_le _ fun e h => by cases h; rfl) (.cons (litI_le _ fun e h => by cases h; rfl) .nil)))
def litN (g r : Int) : List D := [.int .i64 (.lit g), .int .i64 (.lit r), .nils, .nils]
def seenN (g r : Int) : SeenD := ⟨g, r, true, [], true, []⟩
theorem litN_le (g r : Int) : DsLe (litN g r) (seenN g r).c := .cons (DLe.lit _ _) (.cons (DLe.lit _ _) (.cons (DEq.nilv rfl rfl).le (.cons (DEq.nilv rfl rfl).le .nil)))
def exI : List (Int × Int × List Int) := [(0, 4, [4, 7]), (0, 9, [9, 7]), (0, 9, [9, 8])]
def rawI : D := .sll 3 (exI.map litX)
def rawOne : D := .sll 4 [litS (1, 0, [1], [7])]
def rawBoth : D := .sll 4 [litS (1, 0, [1], [7]), litS (2, 0, [1], [7])]
def rawPair : D := .sll 4 [litS (1, 0, [1], [7]), litN 1 0]
def oneS : List SeenD := [seenX (1, 0, [1], [7])]
def bothS : List SeenD := [seenX (1, 0, [1], [7]), seenX (2, 0, [1], [7])]
def pairS : List SeenD := [seenX (1, 0, [1], [7]), seenN 1 0]
theorem rawI_le : DLe rawI (.slm 3 none IssuedD.c (exI.map issX)) := (EsLe.map litX issX litX_le exI).le fun e h => by cases h
theorem one_le : DLe rawOne (.slm 4 none SeenD.c oneS) := (EsLe.cons (litS_le _) .nil).le fun e h => by cases h
theorem both_le : DLe rawBoth (.slm 4 none SeenD.c bothS) := (EsLe.cons (litS_le _) (.cons (litS_le _) .nil)).le fun e h => by cases h
theorem pair_le : DLe rawPair (.slm 4 none SeenD.c pairS) := (EsLe.cons (litS_le _) (.cons (litN_le _ _) .nil)).le fun e h => by cases h
theorem resL (a : D) (x : Int) : DLe (.tup [a, i64 x]) (.tup [a, .int .i64 (.lit x)]) := by
  have h : DEq (.tup [a, i64 x]) (.tup [a, .int .i64 (.lit x)]) := .tup (.cons (.refl _) (.cons (.int rfl) .nil))
  exact h.le
theorem resL3 (a : D) (b : Bool) (x : Int) : DLe (.tup [a, boolD b, i64 x]) (.tup [a, .bool (.lit b), .int .i64 (.lit x)]) := by
  have h : DEq (.tup [a, boolD b, i64 x]) (.tup [a, .bool (.lit b), .int .i64 (.lit x)]) := .tup (.cons (.refl _) (.cons (.bool rfl) (.cons (.int rfl) .nil)))
  exact h.le
theorem resLb (b : Bool) (x : Int) : DLe (.tup [boolD b, i64 x]) (.tup [.bool (.lit b), .int .i64 (.lit x)]) := by
  have h : DEq (.tup [boolD b, i64 x]) (.tup [.bool (.lit b), .int .i64 (.lit x)]) := .tup (.cons (.bool rfl) (.cons (.int rfl) .nil))
  exact h.le
theorem bigI_ex : BigI (exI.map issX) := ⟨by decide, by decide⟩
theorem big_one : BigS oneS := ⟨by decide, by decide, by decide⟩
theorem big_both : BigS bothS := ⟨by decide, by decide, by decide⟩
theorem big_pair : BigS pairS := ⟨by decide, by decide, by decide⟩
theorem big_nilI : BigI [] := ⟨by decide, fun x h => by cases h⟩
theorem big_nilS : BigS [] := ⟨by decide, (fun x h => nomatch h), (fun x h => nomatch h)⟩
theorem boolL (b : Bool) : DLe (boolD b) (.bool (.lit b)) := by
  have h : DEq (boolD b) (.bool (.lit b)) := .bool rfl
  exact h.le
theorem intL (x : Int) : DLe (i64 x) (.int .i64 (.lit x)) := by
  have h : DEq (i64 x) (.int .i64 (.lit x)) := .int rfl
  exact h.le
theorem nilL {α : Type} (n : Nat) (c : α → List D) : DLe .nils (.slm n none c ([] : List α)) := (DEq.nil0 rfl).le
theorem ofV {I : List IssuedD} {S : List SeenD} {g : Int} {a b : D} (ha : DLe a (.slm 3 none IssuedD.c I)) (hb : DLe b (.slm 4 none SeenD.c S)) (hI : BigI I) (hS : BigS S) {l : List Int} {e : Bool} {x : Int} (h1 : ofA I S g = l) (h2 : decide (l.length = 0) = e) (h3 : (if okOf I S g then 0 else 300) = x) :
    Pure Tryd.prog 18 [a, b, .int .i64 (.lit g)] (.tup [.slm 1 (some (.var e)) intC l, .int .i64 (.lit x)]) := by
  have h := Of_pure I S g none none hI hS
  rw [h1, h2, h3] at h
  exact Pure.resL (Pure.argsL (.cons ha (.cons hb (.cons (DLe.lit _ _) .nil))) h) (resL _ _)
theorem anyV {I : List IssuedD} {S : List SeenD} {a b : D} (ha : DLe a (.slm 3 none IssuedD.c I)) (hb : DLe b (.slm 4 none SeenD.c S)) (hI : BigI I) (hS : BigS S) {l : List Int} {e ok : Bool} {x : Int} (h1 : (anyA I S).getD [] = l) (h2 : decide (l.length = 0) = e) (h3 : (anyA I S).isSome = ok) (h4 : (if checkB I S then 0 else 300) = x) :
    Pure Tryd.prog 20 [a, b] (.tup [.slm 1 (some (.var e)) intC l, .bool (.lit ok), .int .i64 (.lit x)]) := by
  have h := Any_pure I S none none hI hS
  rw [h1, h2, h3, h4] at h
  exact Pure.resL (Pure.argsL (.cons ha (.cons hb .nil)) h) (resL3 _ _ _)
theorem explV {I : List IssuedD} {S : List SeenD} {cs : List Int} {a b : D} (ha : DLe a (.slm 3 none IssuedD.c I)) (hb : DLe b (.slm 4 none SeenD.c S)) (hI : BigI I) (hS : BigS S) (hc : cs.length ≤ 1000000) {r : Bool} {x : Int} (h1 : (checkB I S && (decide (cs.length = S.length) && explB I S cs)) = r) (h2 : (if checkB I S then 0 else 300) = x) :
    Pure Tryd.prog 12 [a, b, litI cs] (.tup [.bool (.lit r), .int .i64 (.lit x)]) := by
  have h := Explains_pure I S cs none none none hI hS hc
  rw [h1, h2] at h
  exact Pure.resL (Pure.argsL (.cons ha (.cons hb (.cons (litI_le _ fun e h => by cases h) .nil))) h) (resLb _ _)
theorem sameV (l m : List Int) (e : Bool) {r : Bool} (hl : l.length < 9223372036854775807) (h : decide (l = m) = r) : Pure Tryd.prog 22 [.slm 1 (some (.var e)) intC l, litI m] (.bool (.lit r)) := by
  have h1 := SameInts_pure l m (some (.var e)) none hl
  rw [h] at h1
  exact Pure.resL (Pure.argsL (.cons (DLe.refl _) (.cons (litI_le _ fun e h => by cases h) .nil)) h1) (boolL _)
theorem V1 : Pure Tryd.prog 18 [rawI, rawOne, .int .i64 (.lit 1)] (.tup [.slm 1 (some (.var false)) intC [4, 9], .int .i64 (.lit 0)]) := ofV rawI_le one_le bigI_ex big_one (by kernel_rfl) rfl (by kernel_rfl)
theorem V2 : Pure Tryd.prog 18 [rawI, rawBoth, .int .i64 (.lit 2)] (.tup [.slm 1 (some (.var false)) intC [4, 9], .int .i64 (.lit 0)]) := ofV rawI_le both_le bigI_ex big_both (by kernel_rfl) rfl (by kernel_rfl)
theorem V3 : Pure Tryd.prog 18 [rawI, rawPair, .int .i64 (.lit 1)] (.tup [.slm 1 (some (.var false)) intC [9], .int .i64 (.lit 0)]) := ofV rawI_le pair_le bigI_ex big_pair (by kernel_rfl) rfl (by kernel_rfl)
theorem V4 : Pure Tryd.prog 18 [.nils, .nils, .int .i64 (.lit 0)] (.tup [.slm 1 (some (.var true)) intC [], .int .i64 (.lit 300)]) := ofV (nilL _ _) (nilL _ _) big_nilI big_nilS (by kernel_rfl) rfl (by kernel_rfl)
theorem V5 : Pure Tryd.prog 20 [rawI, rawPair] (.tup [.slm 1 (some (.var false)) intC [1, 2], .bool (.lit true), .int .i64 (.lit 0)]) := anyV rawI_le pair_le bigI_ex big_pair (by kernel_rfl) rfl (by kernel_rfl) (by kernel_rfl)
theorem V6 : Pure Tryd.prog 20 [.nils, .nils] (.tup [.slm 1 (some (.var true)) intC [], .bool (.lit true), .int .i64 (.lit 0)]) := anyV (nilL _ _) (nilL _ _) big_nilI big_nilS (by kernel_rfl) rfl (by kernel_rfl) (by kernel_rfl)
theorem V7 : Pure Tryd.prog 20 [.nils, rawOne] (.tup [.slm 1 (some (.var true)) intC [], .bool (.lit false), .int .i64 (.lit 0)]) := anyV (nilL _ _) one_le big_nilI big_one (by kernel_rfl) rfl (by kernel_rfl) (by kernel_rfl)
theorem V8 : Pure Tryd.prog 12 [rawI, rawBoth, litI [1, 0]] (.tup [.bool (.lit true), .int .i64 (.lit 0)]) := explV rawI_le both_le bigI_ex big_both (by decide) (by kernel_rfl) (by kernel_rfl)
theorem V9 : Pure Tryd.prog 12 [rawI, rawBoth, litI [0, 0]] (.tup [.bool (.lit false), .int .i64 (.lit 0)]) := explV rawI_le both_le bigI_ex big_both (by decide) (by kernel_rfl) (by kernel_rfl)
theorem F1 : Pure Tryd.prog 22 [.slm 1 (some (.var false)) intC [4, 9], litI [4, 9]] (.bool (.lit true)) := sameV _ _ _ (by decide) (by decide)
theorem F2 : Pure Tryd.prog 22 [.slm 1 (some (.var false)) intC [9], litI [9]] (.bool (.lit true)) := sameV _ _ _ (by decide) (by decide)
theorem F3 : Pure Tryd.prog 22 [.slm 1 (some (.var false)) intC [1, 2], litI [1, 2]] (.bool (.lit true)) := sameV _ _ _ (by decide) (by decide)
theorem F4 (g r : Int) {res : Bool} (h : fitsB (issX (0, 4, [4, 7])) (seenN g r) = res) : Pure Tryd.prog 16 [.agg (litX (0, 4, [4, 7])), .agg (litN g r)] (.bool (.lit res)) := by
  have h1 := Fits_pure (issX (0, 4, [4, 7])) (seenN g r) (by decide) (by simp [seenN]) (by simp [seenN])
  rw [h] at h1
  refine Pure.resL (Pure.argsL (args' := [.agg (issX (0, 4, [4, 7])).c, .agg (seenN g r).c]) (.cons ?_ (.cons ?_ .nil)) h1) (boolL _)
  · intro w E v hr
    generalize hd : D.agg (litX (0, 4, [4, 7])) = d at hr
    cases hr with
    | agg hs hh =>
      cases hd
      have hg := (litX_le (0, 4, [4, 7])).get
      refine .agg hs fun i d v h1 h2 => ?_
      have hlt := (List.getElem?_eq_some_iff.1 h1).1
      have h3 : (litX (0, 4, [4, 7]))[i]? = some ((litX (0, 4, [4, 7]))[i]'(by omega)) := List.getElem?_eq_getElem (by omega)
      exact hg.2 i _ _ h3 h1 _ _ _ (hh i _ v h3 h2)
    | _ => cases hd
  · intro w E v hr
    generalize hd : D.agg (litN g r) = d at hr
    cases hr with
    | agg hs hh =>
      cases hd
      have hg := (litN_le g r).get
      refine .agg hs fun i d v h1 h2 => ?_
      have hlt := (List.getElem?_eq_some_iff.1 h1).1
      have h3 : (litN g r)[i]? = some ((litN g r)[i]'(by omega)) := List.getElem?_eq_getElem (by omega)
      exact hg.2 i _ _ h3 h1 _ _ _ (hh i _ v h3 h2)
    | _ => cases hd
end Go.Proofs.YtffmgfehaahlhaaDoor
namespace Go.Proofs.YtffmgfehaahlhaaDoor
open Go.RowKit

/-! The examples of the chapter answer as they should. -/
def zeroX : IssuedD := ⟨0, 0, true, []⟩
abbrev zeroL : List D := [.int .i64 (.lit 0), .int .i64 (.lit 0), .nils]
theorem zero_snd {H H' : List Bk} {b : Nat} {nb : BE} {m : Nat} {len : IE} {r : RE} (hg : goneB H' b = true) (hb : H[b]? = some (.row 26 3 1 r)) (hr : r.den = List.replicate m zeroL) (hl : len.den = (m : Int)) (hn : nb.den = false) : SnD H H' (.osl 3 b 1 nb (.lit 0) len) (.slm 3 none IssuedD.c (List.replicate m zeroX)) := by
  refine .trans (.trans (.sll hg (.inl ⟨_, _, hb, hr⟩) rfl (by rw [hl]; simp) hn) (.slls (es' := (List.replicate m zeroX).map IssuedD.c) (by simp) (fun i e e' h1 h2 => ?_) fun i e e' h1 h2 j d d' h3 h4 => ?_)) (.sll rfl (fun e h => by cases h))
  · simp only [List.map_replicate, List.getElem?_replicate] at h1 h2
    split at h1 <;> simp_all
    subst h1; subst h2; rfl
  · simp only [List.map_replicate, List.getElem?_replicate] at h1 h2
    split at h1
    · next q =>
      rw [if_pos q] at h2
      cases h1; cases h2
      match j, h3, h4 with
      | 0, h3, h4 => cases h3; cases h4; exact .int rfl
      | 1, h3, h4 => cases h3; cases h4; exact .int rfl
      | 2, h3, h4 => cases h3; cases h4; exact .nilv rfl rfl
    · cases h1
theorem checkV (m : Nat) (hm : m ≤ 100) {x : Int} (h : (if checkB (List.replicate m zeroX) [] then 0 else 300) = x) : Pure Tryd.prog 14 [.slm 3 none IssuedD.c (List.replicate m zeroX), .nils] (.int .i64 (.lit x)) := by
  have h1 := Check_pure (List.replicate m zeroX) [] none none ⟨by simp; omega, fun x hx => by rw [(List.mem_replicate.1 hx).2]; decide⟩ big_nilS
  rw [h] at h1
  exact Pure.resL (Pure.argsL (.cons (DLe.refl _) (.cons (nilL _ _) .nil)) h1) (intL _)
theorem C1 : Pure Tryd.prog 14 [.slm 3 none IssuedD.c (List.replicate 65 zeroX), .nils] (.int .i64 (.lit 300)) := checkV 65 (by decide) (by kernel_rfl)
theorem C2 : Pure Tryd.prog 14 [.slm 3 none IssuedD.c (List.replicate 64 zeroX), .nils] (.int .i64 (.lit 0)) := checkV 64 (by decide) (by kernel_rfl)
set_option maxRecDepth 100000 in
set_option maxHeartbeats 4000000 in
theorem sane_pure : Pure Tryd.prog 10 [] (boolD true) := by
  have e : (boolD true : D) = retD [boolD true] := rfl
  rw [e]
  have v1 := V1
  have v2 := V2
  have v3 := V3
  have v4 := V4
  have v5 := V5
  have v6 := V6
  have v7 := V7
  have v8 := V8
  have v9 := V9
  have f1 := F1
  have f2 := F2
  have f3 := F3
  have f4 := F4 0 0 (res := true) (by kernel_rfl)
  have f5 := F4 0 1 (res := false) (by kernel_rfl)
  have c1 := C1
  have c2 := C2
  refine Pure.introC T_ok Tryd.func10 rfl (by kernel_rfl) (rs := [.tmp 0]) rfl (by kernel_rfl) ?_
  generalize hP : Tryd.prog = P at *
  have hT : T.ok P := hP ▸ T_ok
  have hm : P.follows .mixedOrders = true := hP ▸ follows
  unfold Tryd.f10
  dsimp only
  refine CodeP.seq (vc_sound hT hm _ ?_)
  cbv
  refine CodeP.seq (vc_sound hT hm _ ?_)
  cbv
  refine CodeP.seq (vc_sound hT hm _ ?_)
  cbv
  refine CodeP.seq (vc_sound hT hm _ ?_)
  cbv
  refine CodeP.seq (vc_sound hT hm _ ?_)
  cbv
  refine CodeP.keep [0, 1, 2, 3, 4] ?_
  refine CodeP.seq (vc_sound hT hm _ ?_)
  cbv
  refine CallP.pure _ v1 rfl ?_
  cbv
  refine CodeP.keep [0, 1, 2, 3, 4, 5, 6] ?_
  refine CodeP.seq (vc_sound hT hm _ ?_)
  cbv
  refine CallP.pure _ v2 rfl ?_
  cbv
  refine CodeP.keep [0, 1, 2, 3, 4, 5, 6, 7, 8] ?_
  refine CodeP.seq (vc_sound hT hm _ ?_)
  cbv
  refine CallP.pure _ v3 rfl ?_
  cbv
  refine CodeP.keep [0, 1, 2, 3, 4, 5, 6, 7, 8, 9, 10] ?_
  refine CodeP.seq (vc_sound hT hm _ ?_)
  cbv
  refine CallP.pure _ v4 rfl ?_
  cbv
  refine CodeP.keep [0, 1, 2, 3, 4, 5, 6, 7, 8, 9, 10, 11, 12] ?_
  refine CodeP.seq (vc_sound hT hm _ ?_)
  cbv
  refine CallP.pure _ v5 rfl ?_
  cbv
  refine CodeP.keep [0, 1, 2, 3, 4, 5, 6, 7, 8, 9, 10, 11, 12, 13, 14, 15] ?_
  refine CodeP.seq (vc_sound hT hm _ ?_)
  cbv
  refine CallP.pure _ v6 rfl ?_
  cbv
  refine CodeP.keep [0, 1, 2, 3, 4, 5, 6, 7, 8, 9, 10, 11, 12, 13, 14, 15, 16, 17, 18] ?_
  refine CodeP.seq (vc_sound hT hm _ ?_)
  cbv
  refine CallP.pure _ v7 rfl ?_
  cbv
  refine CodeP.keep [0, 1, 2, 3, 4, 5, 6, 7, 8, 9, 10, 11, 12, 13, 14, 15, 16, 17, 18, 19, 20, 21] ?_
  refine CodeP.seq (vc_sound hT hm _ ?_)
  cbv
  refine CallP.pure _ v8 rfl ?_
  cbv
  refine CodeP.keep [0, 1, 2, 3, 4, 5, 6, 7, 8, 9, 10, 11, 12, 13, 14, 15, 16, 17, 18, 19, 20, 21, 22, 23] ?_
  refine CodeP.seq (vc_sound hT hm _ ?_)
  cbv
  refine CallP.pure _ v9 rfl ?_
  cbv
  refine CodeP.keep [0, 1, 2, 3, 4, 5, 6, 7, 8, 9, 10, 11, 12, 13, 14, 15, 16, 17, 18, 19, 20, 21, 22, 23, 24, 25] ?_
  refine CodeP.seq (vc_sound hT hm _ ?_)
  cbv
  refine CodeP.keep [0, 1, 5, 7, 9, 13, 14, 16, 17, 20, 22, 24] ?_
  refine vc_sound hT hm _ ?_
  cbv
  refine CallP.pure _ f1 rfl ?_
  cbv
  refine CallP.pure _ f1 rfl ?_
  cbv
  refine CallP.pure _ f2 rfl ?_
  cbv
  refine OpsP.go hT ?_
  cbv
  refine CallP.pure _ f3 rfl ?_
  cbv
  refine SplitP.mk (fun hs => ?_) (fun hs => ?_)
  rotate_left
  · exfalso
    have h3 : ((([] : List Int).length : Int) == 0) = false := hs
    cases h3
  clear hs
  refine OpsP.keep [0, 1, 20, 22, 24, 158, 159, 160, 161, 162, 163, 164, 165, 166, 167, 168, 169] ?_
  refine OpsP.go hT ?_
  cbv
  refine CallP.pure _ f4 rfl ?_
  cbv
  refine OpsP.go hT ?_
  cbv
  refine CallP.pure _ f5 rfl ?_
  cbv
  refine CallP.lend _ _ c1 (.cons (zero_snd (m := 65) rfl rfl rfl rfl rfl) (.cons (.eq (.refl _)) .nil)) rfl rfl ?_
  cbv
  refine CallP.lend _ _ c2 (.cons (zero_snd (m := 64) rfl rfl rfl rfl rfl) (.cons (.eq (.refl _)) .nil)) rfl rfl ?_
  cbv
  refine .mk (.cons (.eq (.bool rfl)) .nil) rfl
end Go.Proofs.YtffmgfehaahlhaaDoor
namespace Go.Proofs.YtffmgfehaahlhaaDoor
open Go.ChangeShapes Go.WideShapes Go.ChangeAt Go.RowKit

/-! From the form's reading of the arguments to data. -/
def allE (w : World) : Env := Env.of fun b => b < w.heap.size
/-- every reading of type t by the form gives data -/
def OpD (P : Program) (t : TypeId) {α : Type} (c : α → List D) (ok : α → Prop) : Prop :=
  ∀ {H : Type} (enc : TypeId × Value → H) (w : World) (spare : Nat → Bool) (held : Bool) (fuel : Nat) (cs : List Value) (x : DataW H × List MemPlace),
    DataW.trod enc P w 0 spare held fuel t cs = some x → ∃ a, ok a ∧ cs.length = (c a).length ∧ ∀ (i : Nat) d v, (c a)[i]? = some d → cs[i]? = some v → DRep w (allE w) d v
theorem InR.of_wf {k : IntKind} {z : Int} (h : (Lit.int k z).wf = true) : InR k z := by
  simpa [Lit.wf, InR] using h
theorem opd_int {P : Program} {t : TypeId} (ht : P.underlying t = some (.int .i64)) : OpD P t (fun x : Int => [.int .i64 (.var x)]) (fun _ => True) := fun enc w spare held fuel cs x h => by
  obtain ⟨z, rfl, _, h2⟩ := DataW.trod_int ht h
  refine ⟨z, trivial, rfl, fun i d v hd hv => ?_⟩
  match i, hd, hv with
  | 0, hd, hv => cases hd; cases hv; exact .int (e := .var z) (InR.of_wf h2)
theorem opd_u8 {P : Program} {t : TypeId} (ht : P.underlying t = some (.int .u8)) : OpD P t (fun b : BitVec 8 => [.int .u8 (.u8 b)]) (fun _ => True) := fun enc w spare held fuel cs x h => by
  obtain ⟨z, rfl, _, h2⟩ := DataW.trod_int ht h
  have hz := InR.of_wf h2
  have hz2 : 0 ≤ z ∧ z ≤ 255 := by unfold InR IntKind.min IntKind.max at hz; simpa [IntKind.signed, IntKind.bits] using hz
  have e : (IE.u8 (BitVec.ofInt 8 z)).den = z := by
    simp only [IE.den, BitVec.toNat_ofInt]
    omega
  refine ⟨BitVec.ofInt 8 z, trivial, rfl, fun i d v hd hv => ?_⟩
  match i, hd, hv with
  | 0, hd, hv =>
    cases hd; cases hv
    have := DRep.int (w := w) (E := allE w) (k := .u8) (e := .u8 (BitVec.ofInt 8 z)) (by rw [e]; exact hz)
    rwa [e] at this
theorem opd_bool {P : Program} {t : TypeId} (ht : P.underlying t = some .bool) : OpD P t (fun b : Bool => [.bool (.var b)]) (fun _ => True) := fun enc w spare held fuel cs x h => by
  obtain ⟨z, rfl, _⟩ := DataW.trod_bool ht h
  refine ⟨z, trivial, rfl, fun i d v hd hv => ?_⟩
  match i, hd, hv with
  | 0, hd, hv => cases hd; cases hv; exact .bool (e := .var z)
abbrev slC {α : Type} (n : Nat) (c : α → List D) (p : Bool × List α) : List D := [.slm n (some (.var p.1)) c p.2]
theorem opd_slice {α : Type} {P : Program} {t e : TypeId} {n : Nat} {c : α → List D} {ok : α → Prop} (ht : P.underlying t = some (.slice e)) (hn : P.cellsOf e = n) (hpos : 0 < n) (hR : OpD P e c ok) (hc : ∀ a, (c a).length = n) :
    OpD P t (slC n c) (fun p => (p.1 = true → p.2 = []) ∧ (∀ x ∈ p.2, ok x) ∧ p.2.length ≤ maxLen) := fun enc w spare held fuel cs x h => by
  rcases Go.Deep.open_slice ht h with ⟨rfl, _⟩ | ⟨a, len, cap, m, k, D, Pl, rfl, _, hl, hm, hmm, _, hx⟩
  · refine ⟨(true, []), ⟨fun _ => rfl, fun x h => by simp at h, by simp⟩, rfl, fun i d v hd hv => ?_⟩
    match i, hd, hv with
    | 0, hd, hv =>
      cases hd; cases hv
      exact DRep.slm (a := none) (fun _ _ => undef) (fun e he => by cases he; rfl) (Nat.le_refl _) (Nat.zero_le _) (fun x hx => by simp at hx) (fun h => absurd rfl h) (fun i x j d h => by simp at h)
  · have hlm : len ≤ m := by rw [hmm]; split <;> omega
    have e0 : ∀ i, i < m → ∃ z : α, ∃ es, (ok z ∧ es.length = (c z).length ∧ ∀ (i : Nat) d v, (c z)[i]? = some d → es[i]? = some v → DRep w (allE w) d v) ∧ w.cells? 0 (a.add (i * n)) n = some es := fun i hi => by
      obtain ⟨es, h2, h3⟩ := hx i hi
      rw [hn] at h2
      obtain ⟨z, hz⟩ := hR enc w spare held k es _ h3
      exact ⟨z, es, hz, h2⟩
    by_cases h0 : len = 0
    · subst h0
      refine ⟨(false, []), ⟨fun h => by simp at h, fun x h => by simp at h, by simp⟩, rfl, fun i d v hd hv => ?_⟩
      match i, hd, hv with
      | 0, hd, hv =>
        cases hd; cases hv
        exact DRep.slm (a := some a) (fun _ _ => undef) (fun e he => by cases he; rfl) (Nat.zero_le _) hm (fun x hx => by simp at hx) (fun h => absurd rfl h) (fun i x j d h => by simp at h)
    · obtain ⟨z0, _⟩ := e0 0 (by omega)
      have : Inhabited α := ⟨z0⟩
      obtain ⟨z, hz⟩ := Go.Deep.choose_lt e0
      obtain ⟨b, off, spot⟩ := a
      have hspot : spot = none := by
        obtain ⟨es0, _, hc0⟩ := hz 0 (by omega)
        obtain ⟨_, hlen0, hcell0⟩ := World.cells?_some hc0
        have this := hcell0 0 hpos
        rw [List.getElem?_eq_getElem (by omega)] at this
        have h9 := World.cell?_spot this
        simpa [Addr.add] using h9
      subst hspot
      have cell : ∀ i, i < len → ∃ es : List Value, (∀ j, j < n → w.cell? ⟨b, off + i * n + j, none⟩ = es[j]?) ∧ es.length = n ∧ (ok (z i) ∧ es.length = (c (z i)).length ∧ ∀ (j : Nat) d v, (c (z i))[j]? = some d → es[j]? = some v → DRep w (allE w) d v) := fun i hi => by
        obtain ⟨es, hr, hcc⟩ := hz i (by omega)
        obtain ⟨_, hlen, hcell⟩ := World.cells?_some hcc
        refine ⟨es, fun j hj => ?_, hlen, hr⟩
        have := hcell j hj
        rw [add_none, add_none] at this
        exact this
      have hbl : b < w.heap.size := by
        obtain ⟨es, h1, h2, _⟩ := cell 0 (by omega)
        have := h1 0 hpos
        rw [List.getElem?_eq_getElem (by omega)] at this
        exact World.block_lt_of_cell? w ⟨b, _, none⟩ this
      refine ⟨(false, (List.range len).map z), ⟨fun h => by simp at h, fun x hx => ?_, by simp; omega⟩, rfl, fun i d v hd hv => ?_⟩
      · simp only [List.mem_map, List.mem_range] at hx
        obtain ⟨i, hi, rfl⟩ := hx
        obtain ⟨_, _, _, h3, _⟩ := cell i hi
        exact h3
      · match i, hd, hv with
        | 0, hd, hv =>
          cases hd; cases hv
          have hl2 : ((List.range len).map z).length = len := by simp
          have key := DRep.slm (w := w) (E := allE w) (n := n) (nb := some (.var false)) (c := c) (l := (List.range len).map z) (a := some ⟨b, off, none⟩) (cap := cap) (fun i j => (w.cell? ⟨b, off + i * n + j, none⟩).getD undef) (fun e he => by cases he; rfl) (by omega) hm (fun x hx => hc x) (fun _ => ⟨b, off, rfl, hbl, fun i j hi hj => ?_⟩) fun i x j d hx hd => ?_
          · rwa [hl2] at key
          · obtain ⟨es, h1, h2, _⟩ := cell i (by omega)
            rw [h1 j hj, List.getElem?_eq_getElem (by omega)]
            rfl
          · simp only [List.getElem?_map, Option.map_eq_some_iff] at hx
            obtain ⟨i', hi', rfl⟩ := hx
            obtain ⟨hlt, rfl⟩ := List.getElem?_eq_some_iff.1 hi'
            simp only [List.getElem_range] at hd ⊢
            obtain ⟨es, h1, h2, _, h3, h4⟩ := cell i (by simpa using hlt)
            have hj := (List.getElem?_eq_some_iff.1 hd).1
            rw [h1 j (by omega), List.getElem?_eq_getElem (by omega)]
            exact h4 j d _ hd (List.getElem?_eq_getElem (by omega))
section
variable {H : Type} {enc : TypeId × Value → H} {P : Program} {w : World} {spare : Nat → Bool} {held : Bool} {v : Value} {d : DataW H} {p : List MemPlace} {r : Reach} {b0 : Nat} {t : TypeId} {α : Type}
theorem open_sl {e : TypeId} {n : Nat} {c : α → List D} {ok : Bool × List α → Prop} (ht : P.underlying t = some (.slice e)) (ho : OpD P t (slC n c) ok) (hv : Value.okWide P w r b0 t v) (h : DataW.Trod enc P w 0 spare held t v d p) : ∃ p, ok p ∧ DRep w (allE w) (.slm n (some (.var p.1)) c p.2) v := by
  obtain ⟨a, m, k, rfl⟩ := okWide_slice ht hv
  obtain ⟨fuel, hf⟩ := h
  obtain ⟨p, h1, h2, h3⟩ := ho enc w spare held fuel _ _ hf
  exact ⟨p, h1, h3 0 _ _ rfl rfl⟩
theorem open_st {fs : Array Field} {c : α → List D} {ok : α → Prop} (ht : P.underlying t = some (.struct fs)) (ho : OpD P t c ok) (hv : Value.okWide P w r b0 t v) (h : DataW.Trod enc P w 0 spare held t v d p) : ∃ a, ok a ∧ DRep w (allE w) (.agg (c a)) v := by
  obtain ⟨cs, rfl, _⟩ := okWide_struct ht hv
  obtain ⟨fuel, hf⟩ := h
  obtain ⟨a, h1, h2, h3⟩ := ho enc w spare held fuel cs.toList _ hf
  exact ⟨a, h1, .agg (by rw [← h2]; simp) fun i d v hd hv => h3 i d v hd (by simpa using hv)⟩
theorem open_i (ht : P.underlying t = some (.int .i64)) (hv : Value.okWide P w r b0 t v) (h : DataW.Trod enc P w 0 spare held t v d p) : ∃ z, InR .i64 z ∧ DRep w (allE w) (.int .i64 (.var z)) v := by
  obtain ⟨z, rfl, rfl, rfl, wf⟩ := open_int ht hv h
  exact ⟨z, InR.of_wf wf, .int (e := .var z) (InR.of_wf wf)⟩
end
theorem LRep.nil {w : World} {E : Env} : LRep w E [] #[] := ⟨rfl, fun i d v h => by simp at h⟩
theorem lrep_cons {w : World} {E : Env} {d : D} {l : List D} {v : Value} {vs : List Value} (h : DRep w E d v) (r : LRep w E l ⟨vs⟩) : LRep w E (d :: l) ⟨v :: vs⟩ := by
  refine ⟨by have := r.1; simp at this ⊢; omega, fun i d' v' hd hv => ?_⟩
  cases i with
  | zero => simp at hd hv; subst hd hv; exact h
  | succ i => exact r.2 i d' v' (by simpa using hd) (by simpa using hv)
theorem Pure.law {P : Program} {f : Nat} {args : List D} {w : World} {vs : List Value} (h : Pure P f args (.bool (.var true))) (hL : Laid w (allE w).G) (hr : LRep w (allE w) args ⟨vs⟩) : Calls P f ⟨vs⟩ w fun e w' => e = .returned (.bool true) ∧ Below w.heap.size w w' := by
  refine (h.2 w _ _ hL (fun _ hb => hb) hr).mono ?_
  rintro e w' ⟨v, G', rfl, h2, _, _, _, h6⟩
  cases h6
  exact ⟨rfl, h2⟩
theorem open_u8 {H : Type} {enc : TypeId × Value → H} {P : Program} {w : World} {spare : Nat → Bool} {held : Bool} {v : Value} {d : DataW H} {p : List MemPlace} {r : Reach} {b0 : Nat} {t : TypeId} (ht : P.underlying t = some (.int .u8)) (hv : Value.okWide P w r b0 t v) (h : DataW.Trod enc P w 0 spare held t v d p) : ∃ b : BitVec 8, DRep w (allE w) (.int .u8 (.u8 b)) v := by
  obtain ⟨z, rfl, _, _, _⟩ := open_int ht hv h
  obtain ⟨fuel, hf⟩ := h
  obtain ⟨b, _, _, h3⟩ := opd_u8 ht enc w spare held fuel _ _ hf
  exact ⟨b, h3 0 _ _ rfl rfl⟩
end Go.Proofs.YtffmgfehaahlhaaDoor
namespace Go.Proofs.YtffmgfehaahlhaaDoor
open Go.ChangeShapes Go.WideShapes Go.ChangeAt Go.RowKit

/-! The arguments of the laws, and the laid table. -/
abbrev intsOK (p : Bool × List Int) : Prop := (p.1 = true → p.2 = []) ∧ (∀ x ∈ p.2, True) ∧ p.2.length ≤ maxLen
theorem opd_ints : OpD Tryd.prog 24 (slC 1 intC) intsOK := opd_slice (n := 1) (e := 3) (by kernel_rfl) (by kernel_rfl) (by decide) (opd_int (by kernel_rfl)) (fun _ => rfl)
structure IssuedD.fine (x : IssuedD) : Prop where
  nil : x.nil = true → x.values = []
  len : x.values.length ≤ maxLen
structure SeenD.fine (s : SeenD) : Prop where
  nilf : s.nilf = true → s.fields = []
  lenf : s.fields.length ≤ maxLen
  nilv : s.nilv = true → s.values = []
  lenv : s.values.length ≤ maxLen
set_option maxRecDepth 20000 in
theorem opd_issued : OpD Tryd.prog 26 IssuedD.c IssuedD.fine := fun enc w spare held fuel cs x h => by
  obtain ⟨xs, m, _, _, hl, hlen, hf⟩ := DataW.trod_struct Tryd.underlying26 h
  replace hl : cs.length = 3 := hl.trans (by kernel_rfl)
  replace hlen : xs.length = 3 := hlen
  match cs, hl, hf with
  | [c0, c1, c2], _, hf =>
    have h0 := hf 0 _ rfl
    rw [List.getElem?_eq_getElem (by omega)] at h0
    have h1 := hf 1 _ rfl
    rw [List.getElem?_eq_getElem (by omega)] at h1
    have h2 := hf 2 _ rfl
    rw [List.getElem?_eq_getElem (by omega)] at h2
    obtain ⟨y0, _, _, e0⟩ := opd_int (P := Tryd.prog) (by kernel_rfl) enc w spare held m [c0] _ h0
    obtain ⟨y1, _, _, e1⟩ := opd_int (P := Tryd.prog) (by kernel_rfl) enc w spare held m [c1] _ h1
    obtain ⟨y2, k2, _, e2⟩ := opd_ints enc w spare held m [c2] _ h2
    refine ⟨⟨y0, y1, y2.1, y2.2⟩, ⟨k2.1, k2.2.2⟩, rfl, fun i d v hd hv => ?_⟩
    match i, hd, hv with
    | 0, hd, hv => cases hd; cases hv; exact e0 0 _ _ rfl rfl
    | 1, hd, hv => cases hd; cases hv; exact e1 0 _ _ rfl rfl
    | 2, hd, hv => cases hd; cases hv; exact e2 0 _ _ rfl rfl
set_option maxRecDepth 20000 in
theorem opd_seen : OpD Tryd.prog 28 SeenD.c SeenD.fine := fun enc w spare held fuel cs x h => by
  obtain ⟨xs, m, _, _, hl, hlen, hf⟩ := DataW.trod_struct Tryd.underlying28 h
  replace hl : cs.length = 4 := hl.trans (by kernel_rfl)
  replace hlen : xs.length = 4 := hlen
  match cs, hl, hf with
  | [c0, c1, c2, c3], _, hf =>
    have h0 := hf 0 _ rfl
    rw [List.getElem?_eq_getElem (by omega)] at h0
    have h1 := hf 1 _ rfl
    rw [List.getElem?_eq_getElem (by omega)] at h1
    have h2 := hf 2 _ rfl
    rw [List.getElem?_eq_getElem (by omega)] at h2
    have h3 := hf 3 _ rfl
    rw [List.getElem?_eq_getElem (by omega)] at h3
    obtain ⟨y0, _, _, e0⟩ := opd_int (P := Tryd.prog) (by kernel_rfl) enc w spare held m [c0] _ h0
    obtain ⟨y1, _, _, e1⟩ := opd_int (P := Tryd.prog) (by kernel_rfl) enc w spare held m [c1] _ h1
    obtain ⟨y2, k2, _, e2⟩ := opd_ints enc w spare held m [c2] _ h2
    obtain ⟨y3, k3, _, e3⟩ := opd_ints enc w spare held m [c3] _ h3
    refine ⟨⟨y0, y1, y2.1, y2.2, y3.1, y3.2⟩, ⟨k2.1, k2.2.2, k3.1, k3.2.2⟩, rfl, fun i d v hd hv => ?_⟩
    match i, hd, hv with
    | 0, hd, hv => cases hd; cases hv; exact e0 0 _ _ rfl rfl
    | 1, hd, hv => cases hd; cases hv; exact e1 0 _ _ rfl rfl
    | 2, hd, hv => cases hd; cases hv; exact e2 0 _ _ rfl rfl
    | 3, hd, hv => cases hd; cases hv; exact e3 0 _ _ rfl rfl
theorem opd_issueds : OpD Tryd.prog 22 (slC 3 IssuedD.c) (fun p => (p.1 = true → p.2 = []) ∧ (∀ x ∈ p.2, x.fine) ∧ p.2.length ≤ maxLen) := opd_slice (n := 3) (e := 26) (by kernel_rfl) (by kernel_rfl) (by decide) opd_issued (fun _ => rfl)
theorem opd_seens : OpD Tryd.prog 23 (slC 4 SeenD.c) (fun p => (p.1 = true → p.2 = []) ∧ (∀ x ∈ p.2, x.fine) ∧ p.2.length ≤ maxLen) := opd_slice (n := 4) (e := 28) (by kernel_rfl) (by kernel_rfl) (by decide) opd_seen (fun _ => rfl)
theorem maxLen_eq : maxLen = 9223372036854775807 := by unfold maxLen; rfl
theorem few_big {I : List IssuedD} {S : List SeenD} (h : fewB I S = true) : BigI I ∧ BigS S ∧ I.length ≤ 12 ∧ S.length ≤ 5 := by
  simp only [fewB, Bool.and_eq_true, decide_eq_true_eq, List.all_eq_true] at h
  obtain ⟨h1, h2, h3, h4⟩ := h
  exact ⟨⟨by omega, fun x hx => by have := h1 x hx; omega⟩, ⟨by omega, fun x hx => by have := h2 x hx; omega, fun x hx => by have := h2 x hx; omega⟩, h3, h4⟩
abbrev laidR {H : Type} : List (String × DataW H) := [("math/bits.deBruijn64tab", Rows.laid_math_bits_deBruijn64tab)]
theorem gTab : Tryd.prog.globalNamed "math/bits.deBruijn64tab" = some 0 := by kernel_rfl
theorem tTab : (Tryd.prog.globals[0]?).map (·.type) = some 90 := by kernel_rfl
theorem uTab : Tryd.prog.underlying 90 = some (.array 64 5) := by kernel_rfl
theorem door_met (os : Os) (args : Array Value) : laidMetH Tryd.prog laidR ((World.doorLaid Tryd.prog 400 os).forCall (fun _ _ => 0) ⟨#[], args, []⟩).memory :=
  laidMetH_of_parts3 (fuel := 8) (laidMet_of_run' 8 (by kernel_rfl) (by kernel_rfl)) (by kernel_rfl) (by kernel_rfl)
theorem tab_list {H : Type} : (Rows.laid_math_bits_deBruijn64tab : DataW H) = .agg ((List.range 64).map fun i => .lit (.int .u8 (bruijn i))) := rfl
set_option maxRecDepth 20000 in
/-- what the condition gives: the table lies in block 0 -/
theorem of_laid {W : World} (h : laidMetH Tryd.prog laidR W) : Laid W (allE W).G := by
  rw [MakeChecks.laidMetH_plain _ _ _ (by kernel_rfl)] at h
  obtain ⟨ps, ⟨g0, t0, cs0, f0, p0, q0, hg0, ht0, hv0, hd0, _⟩, _, _⟩ := h
  obtain rfl := Option.some.inj (gTab.symm.trans hg0)
  obtain rfl := Option.some.inj (tTab.symm.trans ht0)
  obtain ⟨xs, m1, rfl, hx1, hlen, hn3, hel⟩ := DataW.trod_array uTab hd0
  have c5 : Tryd.prog.cellsOf 5 = 1 := by kernel_rfl
  replace hlen : cs0.toList.length = 64 := hlen.trans (by kernel_rfl)
  simp only [Prod.mk.injEq] at hx1
  have hx2 := hx1.1
  rw [tab_list] at hx2
  simp only [DataW.agg.injEq] at hx2
  have hcell : ∀ i, i < 64 → cs0[i]? = some (.int .u8 (bruijn i)) ∧ InR .u8 (bruijn i) := fun i hi => by
    have h0 := hel i hi
    rw [List.getElem?_eq_getElem (by omega), c5] at h0
    obtain ⟨k, e1, e2, e3⟩ := DataW.trod_int Tryd.underlying5 h0
    have e4 := congrArg (·[i]?) hx2
    simp only [List.getElem?_map, List.getElem?_range hi, Option.map_some] at e4
    rw [List.getElem?_eq_getElem (by omega)] at e4
    simp only [Option.map_some, Option.some.injEq] at e4
    rw [e2] at e4
    simp only [DataW.lit.injEq, Lit.int.injEq, true_and] at e4
    subst e4
    have e5 := congrArg (·[0]?) e1
    rw [List.getElem?_take, if_pos (by decide), List.getElem?_drop] at e5
    simp at e5
    refine ⟨e5, ?_⟩
    unfold Lit.wf at e3
    simp only [Bool.and_eq_true, decide_eq_true_eq] at e3
    exact e3
  intro p hp
  simp only [laidL, List.mem_singleton] at hp
  subst hp
  have hsz : 0 < W.heap.size := by
    have := World.var?_cell gTab hv0 0
    rw [(hcell 0 (by decide)).1] at this
    refine Nat.lt_of_not_le fun q => ?_
    have hn : W.heap[0]? = none := Array.getElem?_eq_none (by omega)
    unfold World.cell? at this
    rw [hn] at this
    cases this
  refine DRep.dpa (base := 0) hsz fun i hi => ?_
  obtain ⟨q1, q2⟩ := hcell i hi
  refine ⟨?_, q2⟩
  rw [Nat.zero_add, World.var?_cell gTab hv0]
  exact q1
end Go.Proofs.YtffmgfehaahlhaaDoor
namespace Go.Proofs.YtffmgfehaahlhaaDoor
open Go.RowKit

/-! Laws of Of and Any, in plain words. -/
theorem of_mem {I : List IssuedD} {S : List SeenD} {g p : Int} : p ∈ ofR I S g ↔ p ∈ peopleL I ∧ Ext I S g p [] := by
  unfold ofR
  rw [List.mem_filter, ← first_iff S.length [] (by simp) (good_nil _ _ _ _)]
  cases firstR I S g p S.length [] <;> simp
theorem ext_way {I : List IssuedD} {S : List SeenD} {g p : Int} : Ext I S g p [] ↔ ∃ f, Way I S f ∧ ∀ j, j < S.length → 0 ≤ p → groupS S j = g → personI I (f j : Int) = p := by
  rw [ext_iff (Nat.zero_le _)]
  constructor
  · rintro ⟨f, h1, h2, _⟩; exact ⟨f, h1, h2⟩
  · rintro ⟨f, h1, h2⟩; exact ⟨f, h1, h2, fun j hj => by simp at hj⟩
theorem any_way {I : List IssuedD} {S : List SeenD} : (firstR I S 0 (-1) S.length []).isSome = true ↔ ∃ f, Way I S f := by
  rw [first_iff S.length [] (by simp) (good_nil _ _ _ _), ext_way]
  constructor
  · rintro ⟨f, h1, _⟩; exact ⟨f, h1⟩
  · rintro ⟨f, h1⟩; exact ⟨f, h1, fun j _ q => by omega⟩
theorem person_mem {I : List IssuedD} {c : Nat} (hc : c < I.length) : personI I (c : Int) ∈ peopleL I := by
  refine (people_mem _ _).2 ⟨I[c], List.getElem_mem _, ?_⟩
  unfold personI
  rw [Int.toNat_natCast, List.getElem?_eq_getElem hc]
theorem occ_iff {S : List SeenD} {g : Int} : occB g S = true ↔ ∃ j, j < S.length ∧ groupS S j = g := by
  unfold occB
  rw [List.any_eq_true]
  constructor
  · rintro ⟨s, hs, hg⟩
    obtain ⟨j, hj, rfl⟩ := List.getElem_of_mem hs
    refine ⟨j, hj, ?_⟩
    unfold groupS
    rw [List.getElem?_eq_getElem hj]
    simpa using hg
  · rintro ⟨j, hj, hg⟩
    refine ⟨S[j], List.getElem_mem _, ?_⟩
    unfold groupS at hg
    rw [List.getElem?_eq_getElem hj] at hg
    simpa using hg
/-- a person is possible just where some way says so -/
theorem of_way {I : List IssuedD} {S : List SeenD} {g p : Int} (ho : occB g S = true) (hI : ∀ x ∈ I, 0 ≤ x.person) : p ∈ ofR I S g ↔ ∃ f, Way I S f ∧ ∀ j, j < S.length → groupS S j = g → personI I (f j : Int) = p := by
  rw [of_mem, ext_way]
  constructor
  · rintro ⟨hp, f, h1, h2⟩
    obtain ⟨x, hx, rfl⟩ := (people_mem I p).1 hp
    exact ⟨f, h1, fun j hj hg => h2 j hj (hI x hx) hg⟩
  · rintro ⟨f, h1, h2⟩
    obtain ⟨j, hj, hg⟩ := occ_iff.1 ho
    refine ⟨?_, f, h1, fun j hj _ hg => h2 j hj hg⟩
    rw [← h2 j hj hg]
    exact person_mem (opt_iff.1 (h1.opt j hj)).1
theorem of_any {I : List IssuedD} {S : List SeenD} {g : Int} (ho : occB g S = true) (hI : ∀ x ∈ I, 0 ≤ x.person) : decide (0 < (ofR I S g).length) = (firstR I S 0 (-1) S.length []).isSome := by
  rw [Bool.eq_iff_iff, decide_eq_true_eq, any_way]
  constructor
  · intro h
    cases hl : ofR I S g with
    | nil => rw [hl] at h; simp at h
    | cons p l =>
      have hp : p ∈ ofR I S g := by rw [hl]; simp
      obtain ⟨f, h1, _⟩ := (of_way ho hI).1 hp
      exact ⟨f, h1⟩
  · rintro ⟨f, hf⟩
    obtain ⟨j, hj, hg⟩ := occ_iff.1 ho
    have hp : personI I (f j : Int) ∈ ofR I S g := (of_way ho hI).2 ⟨f, hf, fun i hi hgi => hf.grp i j hi hj (by rw [hgi, hg])⟩
    cases hl : ofR I S g with
    | nil => rw [hl] at hp; cases hp
    | cons p l => simp
end Go.Proofs.YtffmgfehaahlhaaDoor
namespace Go.Proofs.YtffmgfehaahlhaaDoor
open Go.RowKit

/-! within: all elements of a list are in another one. -/
def isIn (b : List Int) (n : Int) : Bool := b.any fun m => decide (n = m)
def withinB (a b : List Int) : Bool := a.all (isIn b)
theorem isIn_iff {b : List Int} {n : Int} : isIn b n = true ↔ n ∈ b := by
  unfold isIn
  rw [List.any_eq_true]
  constructor
  · rintro ⟨m, hm, he⟩
    simp only [decide_eq_true_eq] at he
    rw [he]; exact hm
  · intro h; exact ⟨n, h, by simp⟩
theorem withinB_iff {a b : List Int} : withinB a b = true ↔ ∀ n ∈ a, n ∈ b := by
  unfold withinB
  rw [List.all_eq_true]
  exact ⟨fun h n hn => isIn_iff.1 (h n hn), fun h n hn => isIn_iff.2 (h n hn)⟩
set_option maxRecDepth 100000 in
set_option maxHeartbeats 4000000 in
theorem within_pure (a b : List Int) (na nb : Option BE) (ha : a.length < 9223372036854775807) (hb : b.length < 9223372036854775807) : Pure Tryd.prog 26 [.slm 1 na intC a, .slm 1 nb intC b] (boolD (withinB a b)) := by
  obtain ⟨r, hr⟩ : ∃ r, r = withinB a b := ⟨_, rfl⟩
  rw [← hr]
  unfold withinB at hr
  obtain ⟨f, hf⟩ : ∃ f : Int → Bool, f = isIn b := ⟨_, rfl⟩
  rw [← hf] at hr
  obtain ⟨fj, hfj⟩ : ∃ f : Int → Nat → Bool, f = fun n j => (b.take j).any fun m => decide (n = m) := ⟨_, rfl⟩
  have h0 : ∀ n, fj n 0 = false := fun n => by rw [hfj]; simp
  have hs : ∀ n j m, b[j]? = some m → fj n (j + 1) = (fj n j || decide (n = m)) := fun n j m h => by
    rw [hfj]
    simp only
    rw [List.take_add_one, h, List.any_append]
    simp
  have he : ∀ n, fj n b.length = f n := fun n => by rw [hfj, hf]; simp [isIn]
  clear hf hfj
  obtain ⟨nA, hnA⟩ : ∃ n : Nat, n = a.length := ⟨_, rfl⟩
  obtain ⟨nB, hnB⟩ : ∃ n : Nat, n = b.length := ⟨_, rfl⟩
  refine Pure.intro (want := [boolD r]) T_ok follows Tryd.func26 rfl (by kernel_rfl) (rs := [.tmp 4]) rfl (by kernel_rfl) ?_
  generalize hP : Tryd.prog = P at *
  have hT : T.ok P := hP ▸ T_ok
  have hm : P.follows .mixedOrders = true := hP ▸ follows
  unfold Tryd.f26
  dsimp only
  cbv
  refine CodeP.loopc hT hm (X := Nat) (fun k => [(12, .int .i64 (.nat k))]) (fun k => k ≤ nA ∧ r = (a.drop k).all f) (fun k => nA - k) 0 ⟨Nat.zero_le _, hr⟩ (Nat.zero_le _) ?_ rfl ?_
  · (cbv; (repeat' (first | exact SnD.refl _ | exact trivial | exact SnD.nat0 | refine And.intro ?_ ?_)))
  intro k ⟨hk, hq⟩
  cbv
  refine SplitP.mk (fun hs1 => ?_) (fun hs1 => ?_)
  rotate_left
  · have hkn : a.length ≤ k := by
      have h5 : decide ((k : Int) < (a.length : Int)) = false := hs1
      have := of_decide_eq_false h5
      omega
    clear hs1
    refine .mk (.cons (.eq (.bool ?_)) .nil) rfl
    rw [BE.lit_d, BE.var_d]
    rw [hq, List.drop_of_length_le (by omega)]; rfl
  have hkn : k < a.length := by
    have h5 : decide ((k : Int) < (a.length : Int)) = true := hs1
    have := of_decide_eq_true h5
    omega
  clear hs1
  refine ElemP.mk (by show (0 : Int) ≤ (k : Int) ∧ (k : Int) < (a.length : Int); omega) (fun x hx => ?_)
  replace hx : a[k]? = some x := hx
  rw [drop_cons hx, List.all_cons] at hq
  have hsx := hs x
  have h0x := h0 x
  have hex := he x
  obtain ⟨fx, hfx⟩ : ∃ g, g = fj x := ⟨_, rfl⟩
  rw [← hfx] at hsx h0x hex
  cbv
  refine CodeP.loopc hT hm (X := Nat × Bool) (fun y => [(18, .int .i64 (.nat y.1)), (7, .bool (.var y.2))]) (fun y => y.1 ≤ nB ∧ y.2 = fx y.1) (fun y => nB - y.1) (0, false) ⟨Nat.zero_le _, h0x.symm⟩ (Nat.zero_le _) ?_ rfl ?_
  · refine ⟨.nat0, .eq (.bool rfl), ?_⟩
    (cbv; (repeat' (first | exact SnD.refl _ | exact trivial | exact SnD.nat0 | refine And.intro ?_ ?_)))
  intro ⟨j, m⟩ ⟨hj, hm2⟩
  simp only at hj hm2
  cbv
  refine SplitP.mk (fun hs2 => ?_) (fun hs2 => ?_)
  · have hkn : j < b.length := by
      have h5 : decide ((j : Int) < (b.length : Int)) = true := hs2
      have := of_decide_eq_true h5
      omega
    clear hs2
    refine ElemP.mk (by show (0 : Int) ≤ (j : Int) ∧ (j : Int) < (b.length : Int); omega) (fun y hy => ?_)
    replace hy : b[j]? = some y := hy
    have hsy := hsx j y hy
    cbv
    refine SplitP.mk (fun h5 => ?_) (fun h5 => ?_)
    · replace h5 : m = true := h5
      refine BackP.intro (j + 1, true) ⟨by simp only; omega, by simp only; rw [hsy, ← hm2, h5]; rfl⟩ (by show nB - (j + 1) < nB - j; omega) ⟨?_, trivial, rfl⟩
      refine ⟨.inc (by omega), .eq (.bool ?_), ?_⟩
      · rfl
      · (cbv; (repeat' (first | exact SnD.refl _ | exact trivial | exact SnD.nat0 | refine And.intro ?_ ?_)))
    · replace h5 : m = false := h5
      refine BackP.intro (j + 1, decide (x = y)) ⟨by simp only; omega, by simp only; rw [hsy, ← hm2, h5]; rfl⟩ (by show nB - (j + 1) < nB - j; omega) ⟨?_, trivial, rfl⟩
      refine ⟨.inc (by omega), .eq (.bool ?_), ?_⟩
      · show (x == y) = decide (x = y)
        rw [Bool.eq_iff_iff]; simp
      · (cbv; (repeat' (first | exact SnD.refl _ | exact trivial | exact SnD.nat0 | refine And.intro ?_ ?_)))
  · have hkn : b.length ≤ j := by
      have h5 : decide ((j : Int) < (b.length : Int)) = false := hs2
      have := of_decide_eq_false h5
      omega
    clear hs2
    have hmf : m = f x := by rw [hm2, ← hex]; congr 1; omega
    refine SplitP.mk (fun h5 => ?_) (fun h5 => ?_)
    · replace h5 : m = false := by simpa using (show (!m) = true from h5)
      refine .mk (.cons (.eq (.bool ?_)) .nil) rfl
      rw [BE.lit_d, BE.var_d]
      rw [hq, ← hmf, h5]; rfl
    · replace h5 : m = true := by simpa using (show (!m) = false from h5)
      refine BackP.intro (k + 1) ⟨by omega, by rw [hq, ← hmf, h5]; rfl⟩ (by show nA - (k + 1) < nA - k; omega) ⟨?_, trivial, rfl⟩
      (cbv; (repeat' (first | exact SnD.refl _ | exact trivial | exact SnD.nat0 | refine And.intro ?_ ?_)))
      exact .inc (by omega)
end Go.Proofs.YtffmgfehaahlhaaDoor
namespace Go.Proofs.YtffmgfehaahlhaaDoor
open Go.RowKit

/-! More copies, more sights. -/
theorem opt_more {I : List IssuedD} {S : List SeenD} {x : IssuedD} {j c : Nat} (h : optO I S j c = true) : optO (I ++ [x]) S j c = true := by
  unfold optO at h ⊢
  cases hx : I[c]? with
  | none => rw [hx] at h; cases h
  | some y =>
    rw [hx] at h
    rw [List.getElem?_append_left (List.getElem?_eq_some_iff.1 hx).1, hx]
    exact h
theorem person_more {I : List IssuedD} {x : IssuedD} {c : Nat} (hc : c < I.length) : personI (I ++ [x]) (c : Int) = personI I (c : Int) := by
  unfold personI
  rw [Int.toNat_natCast, List.getElem?_append_left hc]
theorem group_more {S : List SeenD} {s : SeenD} {j : Nat} (hj : j < S.length) : groupS (S ++ [s]) j = groupS S j := by
  unfold groupS
  rw [List.getElem?_append_left hj]
theorem opt_less {I : List IssuedD} {S : List SeenD} {s : SeenD} {j c : Nat} (hj : j < S.length) : optO I (S ++ [s]) j c = optO I S j c := by
  unfold optO
  rw [List.getElem?_append_left hj]
theorem Way.more {I : List IssuedD} {S : List SeenD} {x : IssuedD} {f : Nat → Nat} (h : Way I S f) : Way (I ++ [x]) S f := by
  refine ⟨fun j hj => opt_more (h.opt j hj), h.inj, fun a b ha hb hg => ?_⟩
  rw [person_more (opt_iff.1 (h.opt a ha)).1, person_more (opt_iff.1 (h.opt b hb)).1]
  exact h.grp a b ha hb hg
theorem Way.less {I : List IssuedD} {S : List SeenD} {s : SeenD} {f : Nat → Nat} (h : Way I (S ++ [s]) f) : Way I S f := by
  have hl : ∀ j, j < S.length → j < (S ++ [s]).length := fun j hj => by simp; omega
  refine ⟨fun j hj => ?_, fun a b ha hb => h.inj a b (hl a ha) (hl b hb), fun a b ha hb hg => h.grp a b (hl a ha) (hl b hb) (by rw [group_more ha, group_more hb]; exact hg)⟩
  rw [← opt_less (s := s) hj]
  exact h.opt j (hl j hj)
theorem iss_person {I : List IssuedD} {S : List SeenD} (h : checkB I S = true) : ∀ x ∈ I, 0 ≤ x.person := fun x hx => (check_issued h hx).1
theorem of_more {I : List IssuedD} {S : List SeenD} {x : IssuedD} {g : Int} (h : okOf I S g = true) (h2 : okOf (I ++ [x]) S g = true) : withinB (ofA I S g) (ofA (I ++ [x]) S g) = true := by
  unfold ofA
  rw [h, h2, if_pos rfl, if_pos rfl, withinB_iff]
  unfold okOf at h h2
  simp only [Bool.and_eq_true] at h h2
  intro p hp
  obtain ⟨f, h3, h4⟩ := (of_way h.2 (iss_person h.1)).1 hp
  refine (of_way h2.2 (iss_person h2.1)).2 ⟨f, h3.more, fun j hj hg => ?_⟩
  rw [person_more (opt_iff.1 (h3.opt j hj)).1]
  exact h4 j hj hg
theorem of_less {I : List IssuedD} {S : List SeenD} {s : SeenD} {g : Int} (h : okOf I S g = true) (h2 : okOf I (S ++ [s]) g = true) : withinB (ofA I (S ++ [s]) g) (ofA I S g) = true := by
  unfold ofA
  rw [h, h2, if_pos rfl, if_pos rfl, withinB_iff]
  unfold okOf at h h2
  simp only [Bool.and_eq_true] at h h2
  intro p hp
  obtain ⟨f, h3, h4⟩ := (of_way h2.2 (iss_person h2.1)).1 hp
  exact (of_way h.2 (iss_person h.1)).2 ⟨f, h3.less, fun j hj hg => h4 j (by simp; omega) (by rw [group_more hj]; exact hg)⟩
theorem check_more {I : List IssuedD} {S : List SeenD} {x : IssuedD} (h : checkB I S = true) (hl : I.length ≤ 12) : checkB (I ++ [x]) S = issB x := by
  unfold checkB at h ⊢
  simp only [Bool.and_eq_true, decide_eq_true_eq] at h
  rw [List.all_append, h.2.1, h.2.2, decide_eq_true (by simp; omega)]
  simp
theorem check_less {I : List IssuedD} {S : List SeenD} {s : SeenD} (h : checkB I S = true) (hl : S.length ≤ 5) : checkB I (S ++ [s]) = seenB s := by
  unfold checkB at h ⊢
  simp only [Bool.and_eq_true, decide_eq_true_eq] at h
  rw [List.all_append, h.2.1, h.2.2, decide_eq_true (by simp; omega)]
  simp
theorem ok_more {I : List IssuedD} {S : List SeenD} {x : IssuedD} {g : Int} (h : okOf I S g = true) (hl : I.length ≤ 12) : okOf (I ++ [x]) S g = issB x := by
  unfold okOf at h ⊢
  simp only [Bool.and_eq_true] at h
  rw [check_more h.1 hl, h.2, Bool.and_true]
theorem ok_less {I : List IssuedD} {S : List SeenD} {s : SeenD} {g : Int} (h : okOf I S g = true) (hl : S.length ≤ 5) : okOf I (S ++ [s]) g = seenB s := by
  unfold okOf at h ⊢
  simp only [Bool.and_eq_true] at h
  have : occB g (S ++ [s]) = true := by
    unfold occB at h ⊢
    rw [List.any_append, h.2]
    rfl
  rw [check_less h.1 hl, this, Bool.and_true]
end Go.Proofs.YtffmgfehaahlhaaDoor
namespace Go.Proofs.YtffmgfehaahlhaaDoor
open Go.ChangeShapes Go.WideShapes Go.ChangeAt Go.RowKit

/-! How great an argument can be. -/
theorem open_slz {H : Type} {enc : TypeId × Value → H} {P : Program} {w : World} {spare : Nat → Bool} {held : Bool} {v : Value} {d : DataW H} {pl : List MemPlace} {r : Reach} {b0 : Nat} {t : TypeId} {α : Type} {e : TypeId} {n : Nat} {c : α → List D} {ok : Bool × List α → Prop} (ht : P.underlying t = some (.slice e)) (ho : OpD P t (slC n c) ok) (hv : Value.okWide P w r b0 t v) (h : DataW.Trod enc P w 0 spare held t v d pl) :
    ∃ p : Bool × List α, ok p ∧ DRep w (allE w) (.slm n (some (.var p.1)) c p.2) v ∧ ∀ (ts : List TypeId) (ds : List (DataW H)) (j : Nat), (DataW.weightsEach P ts ds).all (· ≤ reachBytes) = true → ts[j]? = some t → ds[j]? = some d → p.2.length * P.bytesOf e ≤ reachBytes := by
  obtain ⟨a, m, k, rfl⟩ := okWide_slice ht hv
  obtain ⟨fuel, hf⟩ := h
  obtain ⟨p, h1, h2, h3⟩ := ho enc w spare held fuel _ _ hf
  have hr : DRep w (allE w) (.slm n (some (.var p.1)) c p.2) (.slice a m k) := h3 0 _ _ rfl rfl
  refine ⟨p, h1, hr, fun ts ds j hs hj hd => ?_⟩
  have hm : p.2.length = m := by
    generalize hdd : D.slm n (some (.var p.1)) c p.2 = dd at hr
    generalize hvv : Value.slice a m k = vv at hr
    cases hr with
    | slm => cases hdd; cases hvv; rfl
    | _ => cases hdd
  rcases Go.Deep.open_slice ht hf with ⟨hc, _⟩ | ⟨a', len, cap, m', k', D, Pl, hc, _, hl, _, hmm, hx, _⟩
  · have h0 : m = 0 := by cases hc; rfl
    rw [hm, h0]
    simp
  · have hml : m = len := by cases hc; rfl
    have hd2 : d = .slice ((List.range len).map D) ((List.range (m' - len)).map fun j => D (len + j)) := by
      have := congrArg Prod.fst hx
      exact this
    rw [hd2] at hd
    have := sized_slice hs hj hd ht
    simp only [List.length_map, List.length_range] at this
    rw [hm, hml]
    exact Nat.le_trans (Nat.mul_le_mul_right _ (by omega)) this
end Go.Proofs.YtffmgfehaahlhaaDoor
namespace Go.Proofs.YtffmgfehaahlhaaDoor
open Go.RowKit

/-! PossibleAlike: the exchange of two persons. -/
def swapI (p q n : Int) : Int := if n = p then q else if n = q then p else n
set_option maxRecDepth 100000 in
set_option maxHeartbeats 4000000 in
theorem swap_pure (p q n : Int) : Pure Tryd.prog 28 [i64 n, .dp [i64 p] 0, .dp [i64 q] 0] (i64 (swapI p q n)) := by
  obtain ⟨r, hr⟩ : ∃ r, r = swapI p q n := ⟨_, rfl⟩
  rw [← hr]
  unfold swapI at hr
  refine Pure.intro (want := [i64 r]) T_ok follows Tryd.func28 rfl (by kernel_rfl) (rs := [.tmp 4]) rfl (by kernel_rfl) ?_
  generalize hP : Tryd.prog = P at *
  have hT : T.ok P := hP ▸ T_ok
  have hm : P.follows .mixedOrders = true := hP ▸ follows
  unfold Tryd.f28
  dsimp only
  cbv
  refine SplitP.mk (fun hs => ?_) (fun hs => ?_)
  · replace hs : (n == p) = true := hs
    have h1 : n = p := by simpa using hs
    refine .mk (.cons (.eq (.int ?_)) .nil) rfl
    rw [IE.var_d, IE.var_d]
    rw [hr, if_pos h1]
  · replace hs : (n == p) = false := hs
    have h1 : ¬ n = p := by simpa using hs
    refine SplitP.mk (fun hs2 => ?_) (fun hs2 => ?_)
    · replace hs2 : (n == q) = true := hs2
      have h2 : n = q := by simpa using hs2
      refine .mk (.cons (.eq (.int ?_)) .nil) rfl
      rw [IE.var_d, IE.var_d, hr, if_neg h1, if_pos h2]
    · replace hs2 : (n == q) = false := hs2
      have h2 : ¬ n = q := by simpa using hs2
      refine .mk (.cons (.eq (.int ?_)) .nil) rfl
      rw [IE.var_d, IE.var_d, hr, if_neg h1, if_neg h2]
theorem swap_swap (p q n : Int) : swapI p q (swapI p q n) = n := by
  unfold swapI
  by_cases h1 : n = p
  · subst h1
    by_cases h2 : q = n
    · subst h2; simp
    · simp [h2]
  · by_cases h2 : n = q
    · subst h2; simp [h1]
    · simp [h1, h2]
theorem swap_inj {p q a b : Int} (h : swapI p q a = swapI p q b) : a = b := by rw [← swap_swap p q a, h, swap_swap]
/-- the copies, their persons exchanged -/
def turnX (p q : Int) (x : IssuedD) : IssuedD := { x with person := swapI p q x.person }
theorem turn_fits (p q : Int) (x : IssuedD) (s : SeenD) : fitsB (turnX p q x) s = fitsB x s := rfl
theorem turn_opt (p q : Int) (I : List IssuedD) (S : List SeenD) (j c : Nat) : optO (I.map (turnX p q)) S j c = optO I S j c := by
  unfold optO
  rw [List.getElem?_map]
  cases I[c]? with
  | none => rfl
  | some x =>
    cases S[j]? <;> rfl
theorem turn_person {p q : Int} {I : List IssuedD} {c : Nat} (hc : c < I.length) : personI (I.map (turnX p q)) (c : Int) = swapI p q (personI I (c : Int)) := by
  unfold personI
  rw [Int.toNat_natCast, List.getElem?_map, List.getElem?_eq_getElem hc]
  rfl
theorem Way.turn {p q : Int} {I : List IssuedD} {S : List SeenD} {f : Nat → Nat} (h : Way I S f) : Way (I.map (turnX p q)) S f := by
  refine ⟨fun j hj => by rw [turn_opt]; exact h.opt j hj, h.inj, fun a b ha hb hg => ?_⟩
  rw [turn_person (opt_iff.1 (h.opt a ha)).1, turn_person (opt_iff.1 (h.opt b hb)).1, h.grp a b ha hb hg]
theorem turn_turn (p q : Int) (I : List IssuedD) : (I.map (turnX p q)).map (turnX p q) = I := by
  rw [List.map_map]
  have : (turnX p q ∘ turnX p q) = id := by
    funext x
    simp [turnX, swap_swap]
  rw [this, List.map_id]
theorem iss_turn {p q : Int} (hp : 0 ≤ p ∧ p ≤ 4095) (hq : 0 ≤ q ∧ q ≤ 4095) (x : IssuedD) : issB (turnX p q x) = issB x := by
  unfold issB turnX
  simp only
  congr 1
  rw [Bool.eq_iff_iff, decide_eq_true_eq, decide_eq_true_eq]
  unfold swapI
  split
  · next h => omega
  · split
    · next h => omega
    · exact Iff.rfl
theorem check_turn {p q : Int} (hp : 0 ≤ p ∧ p ≤ 4095) (hq : 0 ≤ q ∧ q ≤ 4095) (I : List IssuedD) (S : List SeenD) : checkB (I.map (turnX p q)) S = checkB I S := by
  unfold checkB
  rw [List.all_map, List.length_map]
  have : (issB ∘ turnX p q) = issB := funext fun x => iss_turn hp hq x
  rw [this]
theorem ok_turn {p q : Int} (hp : 0 ≤ p ∧ p ≤ 4095) (hq : 0 ≤ q ∧ q ≤ 4095) (I : List IssuedD) (S : List SeenD) (g : Int) : okOf (I.map (turnX p q)) S g = okOf I S g := by
  unfold okOf
  rw [check_turn hp hq]
theorem of_turn1 {p q : Int} (hp : 0 ≤ p ∧ p ≤ 4095) (hq : 0 ≤ q ∧ q ≤ 4095) {I : List IssuedD} {S : List SeenD} {g n : Int} (h : okOf I S g = true) (hn : n ∈ ofR I S g) : swapI p q n ∈ ofR (I.map (turnX p q)) S g := by
  have h2 : okOf (I.map (turnX p q)) S g = true := by rw [ok_turn hp hq]; exact h
  unfold okOf at h h2
  simp only [Bool.and_eq_true] at h h2
  have hI : ∀ x ∈ I, 0 ≤ x.person := fun x hx => (check_issued h.1 hx).1
  have hJ : ∀ x ∈ I.map (turnX p q), 0 ≤ x.person := fun x hx => (check_issued h2.1 hx).1
  obtain ⟨f, h3, h4⟩ := (of_way h.2 hI).1 hn
  refine (of_way h2.2 hJ).2 ⟨f, h3.turn, fun j hj hg => ?_⟩
  rw [turn_person (opt_iff.1 (h3.opt j hj)).1, h4 j hj hg]
theorem of_nodup (I : List IssuedD) (S : List SeenD) (g : Int) : (ofR I S g).Nodup := by
  unfold ofR
  exact ((people_sorted I).imp fun h => by omega).filter _
theorem nodup_le : ∀ {a b : List Int}, a.Nodup → (∀ n ∈ a, n ∈ b) → a.length ≤ b.length
  | [], b, _, _ => Nat.zero_le _
  | x :: a, b, h, hs => by
    obtain ⟨h1, h2⟩ := List.nodup_cons.1 h
    have hx := hs x (by simp)
    have := nodup_le (a := a) (b := b.erase x) h2 fun n hn => by
      have hne : n ≠ x := fun e => h1 (by rw [← e]; exact hn)
      exact (List.mem_erase_of_ne hne).2 (hs n (by simp [hn]))
    rw [List.length_erase_of_mem hx] at this
    have hb : 0 < b.length := List.length_pos_of_mem hx
    simp only [List.length_cons]
    omega
theorem of_turn_le {p q : Int} (hp : 0 ≤ p ∧ p ≤ 4095) (hq : 0 ≤ q ∧ q ≤ 4095) {I : List IssuedD} {S : List SeenD} {g : Int} (h : okOf I S g = true) : (ofR I S g).length ≤ (ofR (I.map (turnX p q)) S g).length := by
  have h1 : ((ofR I S g).map (swapI p q)).Nodup := List.pairwise_map.2 ((of_nodup I S g).imp fun hne e => hne (swap_inj e))
  have := nodup_le h1 (b := ofR (I.map (turnX p q)) S g) fun n hn => by
    obtain ⟨m, hm, rfl⟩ := List.mem_map.1 hn
    exact of_turn1 hp hq h hm
  simpa using this
theorem of_turn {p q : Int} (hp : 0 ≤ p ∧ p ≤ 4095) (hq : 0 ≤ q ∧ q ≤ 4095) (I : List IssuedD) (S : List SeenD) (g : Int) : (ofA (I.map (turnX p q)) S g).length = (ofA I S g).length := by
  unfold ofA
  rw [ok_turn hp hq]
  cases h : okOf I S g with
  | false => rfl
  | true =>
    simp only [if_true]
    have h1 := of_turn_le hp hq h
    have h2 := of_turn_le hp hq (I := I.map (turnX p q)) (S := S) (g := g) (by rw [ok_turn hp hq]; exact h)
    rw [turn_turn] at h2
    omega
end Go.Proofs.YtffmgfehaahlhaaDoor
namespace Go.Proofs.YtffmgfehaahlhaaDoor
open Go.RowKit

/-! alike: the copies of two persons can be paired. -/
def copiesA (I : List IssuedD) (p : Int) : List IssuedD := I.filter fun x => decide (x.person = p)
def copiesB (I : List IssuedD) (p q : Int) : List IssuedD := I.filter fun x => decide (¬ x.person = p ∧ x.person = q)
def alikeB (I : List IssuedD) (S : List SeenD) (p q : Int) : Bool := decide ((copiesA I p).length = (copiesB I p q).length) && ((copiesA I p).zip (copiesB I p q)).all fun z => S.all fun s => fitsB z.1 s == fitsB z.2 s
set_option maxRecDepth 100000 in
set_option maxHeartbeats 4000000 in
theorem alike_pure (I : List IssuedD) (S : List SeenD) (nbI nbS : Option BE) (p q : Int) (hI : I.length ≤ 100) (hS : S.length ≤ 100) (hf : ∀ x ∈ I, ∀ s ∈ S, Pure Tryd.prog 16 [.agg x.c, .agg s.c] (boolD (fitsB x s))) :
    Pure Tryd.prog 29 [.slm 3 nbI IssuedD.c I, .slm 4 nbS SeenD.c S, i64 p, i64 q] (boolD (alikeB I S p q)) := by
  obtain ⟨r, hr⟩ : ∃ r, r = alikeB I S p q := ⟨_, rfl⟩
  rw [← hr]
  unfold alikeB at hr
  have fa0 : ∀ k x, I[k]? = some x → x.person = p → copiesA (I.take (k + 1)) p = copiesA (I.take k) p ++ [x] := fun k x hx h => by
    unfold copiesA
    rw [List.take_add_one, hx, List.filter_append]
    simp [h]
  have fa1 : ∀ k x, I[k]? = some x → ¬ x.person = p → copiesA (I.take (k + 1)) p = copiesA (I.take k) p := fun k x hx h => by
    unfold copiesA
    rw [List.take_add_one, hx, List.filter_append]
    simp [h]
  have fb0 : ∀ k x, I[k]? = some x → ¬ x.person = p → x.person = q → copiesB (I.take (k + 1)) p q = copiesB (I.take k) p q ++ [x] := fun k x hx h h2 => by
    unfold copiesB
    rw [List.take_add_one, hx, List.filter_append]
    have : ¬ q = p := fun e => h (by rw [h2, e])
    simp [h2, this]
  have fb1 : ∀ k x, I[k]? = some x → ¬ (¬ x.person = p ∧ x.person = q) → copiesB (I.take (k + 1)) p q = copiesB (I.take k) p q := fun k x hx h => by
    unfold copiesB
    rw [List.take_add_one, hx, List.filter_append]
    simp only [Option.toList_some, List.filter_cons, List.filter_nil]
    rw [if_neg (by simpa using h)]
    simp
  have la : ∀ k, (copiesA (I.take k) p).length ≤ k := fun k => by
    unfold copiesA
    have := List.length_filter_le (fun x : IssuedD => decide (x.person = p)) (I.take k)
    rw [List.length_take] at this
    omega
  have lb : ∀ k, (copiesB (I.take k) p q).length ≤ k := fun k => by
    unfold copiesB
    have := List.length_filter_le (fun x : IssuedD => decide (¬ x.person = p ∧ x.person = q)) (I.take k)
    rw [List.length_take] at this
    omega
  have ea : copiesA (I.take I.length) p = copiesA I p := by rw [List.take_of_length_le (Nat.le_refl _)]
  have eb : copiesB (I.take I.length) p q = copiesB I p q := by rw [List.take_of_length_le (Nat.le_refl _)]
  have ma : ∀ x ∈ copiesA I p, x ∈ I := fun x hx => (List.mem_filter.1 hx).1
  have mb : ∀ x ∈ copiesB I p q, x ∈ I := fun x hx => (List.mem_filter.1 hx).1
  obtain ⟨fa, hfa⟩ : ∃ f : Nat → List IssuedD, f = fun k => copiesA (I.take k) p := ⟨_, rfl⟩
  obtain ⟨fb, hfb⟩ : ∃ f : Nat → List IssuedD, f = fun k => copiesB (I.take k) p q := ⟨_, rfl⟩
  have a0 : fa 0 = [] := by rw [hfa]; simp [copiesA]
  have b0 : fb 0 = [] := by rw [hfb]; simp [copiesB]
  replace fa0 : ∀ k x, I[k]? = some x → x.person = p → fa (k + 1) = fa k ++ [x] := by rw [hfa]; exact fa0
  replace fa1 : ∀ k x, I[k]? = some x → ¬ x.person = p → fa (k + 1) = fa k := by rw [hfa]; exact fa1
  replace fb0 : ∀ k x, I[k]? = some x → ¬ x.person = p → x.person = q → fb (k + 1) = fb k ++ [x] := by rw [hfb]; exact fb0
  replace fb1 : ∀ k x, I[k]? = some x → ¬ (¬ x.person = p ∧ x.person = q) → fb (k + 1) = fb k := by rw [hfb]; exact fb1
  replace la : ∀ k, (fa k).length ≤ k := by rw [hfa]; exact la
  replace lb : ∀ k, (fb k).length ≤ k := by rw [hfb]; exact lb
  obtain ⟨nI, hnI⟩ : ∃ n : Nat, n = I.length := ⟨_, rfl⟩
  obtain ⟨nS, hnS⟩ : ∃ n : Nat, n = S.length := ⟨_, rfl⟩
  replace ea : fa nI = copiesA I p := by rw [hfa, hnI]; exact ea
  replace eb : fb nI = copiesB I p q := by rw [hfb, hnI]; exact eb
  rw [← ea] at hr ma
  rw [← eb] at hr mb
  clear hfa hfb ea eb
  refine Pure.intro (want := [boolD r]) T_ok follows Tryd.func29 rfl (by kernel_rfl) (rs := [.tmp 8]) rfl (by kernel_rfl) ?_
  generalize hP : Tryd.prog = P at *
  have hT : T.ok P := hP ▸ T_ok
  have hm : P.follows .mixedOrders = true := hP ▸ follows
  unfold Tryd.f29
  dsimp only
  cbv
  refine CodeP.virt 9 26 3 rfl ?_
  refine CodeP.virt 10 26 3 rfl ?_
  refine CodeP.loopm hT hm (X := Nat × Nat × List IssuedD × Nat × List IssuedD) (fun x => [(18, .int .i64 (.nat x.1)), (9, .osl 3 0 (x.2.1 + 1) (.cmp .eql (.nat x.2.1) (.lit 0)) (.lit 0) (.nat x.2.1)), (10, .osl 3 1 (x.2.2.2.1 + 1) (.cmp .eql (.nat x.2.2.2.1) (.lit 0)) (.lit 0) (.nat x.2.2.2.1))])
    (fun x => [.row 26 3 (x.2.1 + 1) (.map IssuedD.c x.2.2.1), .row 26 3 (x.2.2.2.1 + 1) (.map IssuedD.c x.2.2.2.2)]) (fun x => x.1 ≤ nI ∧ (x.2.2.1.length = x.2.1 ∧ x.2.2.1 = fa x.1) ∧ x.2.2.2.2.length = x.2.2.2.1 ∧ x.2.2.2.2 = fb x.1) (fun x => nI - x.1) (0, 0, [], 0, []) ⟨Nat.zero_le _, ⟨rfl, a0.symm⟩, rfl, b0.symm⟩ (fun _ => Nat.zero_le _) ⟨?_, ?_, rfl⟩ ?_
  · refine ⟨.nat0, osl_start, osl_start, ?_⟩
    (cbv; (repeat' (first | exact SnD.refl _ | exact trivial | exact SnD.nat0 | refine And.intro ?_ ?_)))
  · exact ⟨.row rfl, .row rfl, trivial⟩
  intro ⟨k, c, A, d, B⟩ ⟨hk, ⟨hc, hA⟩, hd, hB⟩
  simp only at hk hc hA hd hB
  cbv
  refine SplitP.mk (fun hs => ?_) (fun hs => ?_)
  · have hkn : k < I.length := by
      have h5 : decide ((k : Int) < (I.length : Int)) = true := hs
      have := of_decide_eq_true h5
      omega
    clear hs
    refine ElemP.mk (by show (0 : Int) ≤ (k : Int) ∧ (k : Int) < (I.length : Int); omega) (fun x hx => ?_)
    replace hx : I[k]? = some x := hx
    have g1 := fa0 k x hx
    have g2 := fa1 k x hx
    have g3 := fb0 k x hx
    have g4 := fb1 k x hx
    have g5 := la k
    have g6 := lb k
    cbv
    refine SplitP.mk (fun h1 => ?_) (fun h1 => ?_)
    · have h2 : x.person = p := by simpa using (show (x.person == p) = true from h1)
      refine ReqP.mk (app_ok hc (by rw [← hc, hA]; omega) (fun _ => rfl) rfl (by decide)) (fun _ => ?_)
      refine BackP.intro (k + 1, c + 1, A ++ [x], d, B) ⟨by simp only; omega, ⟨by simp only; rw [List.length_append, hc]; rfl, by simp only; rw [g1 h2, hA]⟩, hd, by simp only; rw [g4 fun h => h.1 h2]; exact hB⟩ (by show nI - (k + 1) < nI - k; omega) ⟨?_, ⟨row_app x rfl (.cons (.refl _) (.cons (.refl _) (.cons (.refl _) .nil))), .refl _, trivial⟩, rfl⟩
      refine ⟨.inc (by omega), osl_step c, .refl _, ?_⟩
      (cbv; (repeat' (first | exact SnD.refl _ | exact trivial | exact SnD.nat0 | refine And.intro ?_ ?_)))
    · have h2 : ¬ x.person = p := by simpa using (show (x.person == p) = false from h1)
      refine SplitP.mk (fun h3 => ?_) (fun h3 => ?_)
      · have h4 : x.person = q := by simpa using (show (x.person == q) = true from h3)
        refine ReqP.mk (app_ok hd (by rw [← hd, hB]; omega) (fun _ => rfl) rfl (by decide)) (fun _ => ?_)
        refine BackP.intro (k + 1, c, A, d + 1, B ++ [x]) ⟨by simp only; omega, ⟨hc, by simp only; rw [g2 h2]; exact hA⟩, by simp only; rw [List.length_append, hd]; rfl, by simp only; rw [g3 h2 h4, hB]⟩ (by show nI - (k + 1) < nI - k; omega) ⟨?_, ⟨.refl _, row_app x rfl (.cons (.refl _) (.cons (.refl _) (.cons (.refl _) .nil))), trivial⟩, rfl⟩
        refine ⟨.inc (by omega), .refl _, osl_step d, ?_⟩
        (cbv; (repeat' (first | exact SnD.refl _ | exact trivial | exact SnD.nat0 | refine And.intro ?_ ?_)))
      · have h4 : ¬ x.person = q := by simpa using (show (x.person == q) = false from h3)
        refine BackP.intro (k + 1, c, A, d, B) ⟨by simp only; omega, ⟨hc, by simp only; rw [g2 h2]; exact hA⟩, hd, by simp only; rw [g4 fun h => h4 h.2]; exact hB⟩ (by show nI - (k + 1) < nI - k; omega) ⟨?_, ⟨.refl _, .refl _, trivial⟩, rfl⟩
        refine ⟨.inc (by omega), .refl _, .refl _, ?_⟩
        (cbv; (repeat' (first | exact SnD.refl _ | exact trivial | exact SnD.nat0 | refine And.intro ?_ ?_)))
  · have hkn : I.length ≤ k := by
      have h5 : decide ((k : Int) < (I.length : Int)) = false := hs
      have := of_decide_eq_false h5
      omega
    clear hs
    have hkI : k = nI := by omega
    clear fa0 fa1 fb0 fb1 a0 b0 hkn hk
    rw [hkI] at hA hB
    rw [← hA, ← hB] at hr
    rw [← hA] at ma
    rw [← hB] at mb
    have hcn : c ≤ 100 := by rw [← hc, hA]; have := la nI; omega
    clear hkI hA hB la lb
    refine SplitP.mk (fun hs => ?_) (fun hs => ?_)
    · have h1 : ¬ c = d := by
        have h2 : ((c : Int) != (d : Int)) = true := hs
        simp at h2
        omega
      refine .mk (.cons (.eq (.bool ?_)) .nil) rfl
      rw [BE.lit_d, BE.var_d]
      rw [hr, hc, hd, decide_eq_false h1]; rfl
    have h1 : c = d := by
      have h2 : ((c : Int) != (d : Int)) = false := hs
      simp at h2
      omega
    clear hs
    subst h1
    rw [hc, hd, decide_eq_true rfl, Bool.true_and] at hr
    obtain ⟨F, hF⟩ : ∃ F : IssuedD × IssuedD → Bool, F = fun z => S.all fun s => fitsB z.1 s == fitsB z.2 s := ⟨_, rfl⟩
    rw [← hF] at hr
    have hz : (A.zip B).length = c := by rw [List.length_zip, hc, hd, Nat.min_self]
    have hzk : ∀ k x y, A[k]? = some x → B[k]? = some y → (A.zip B)[k]? = some (x, y) := fun k x y h1 h2 => by rw [List.getElem?_zip_eq_some]; exact ⟨h1, h2⟩
    have hFd : ∀ k x y, A[k]? = some x → B[k]? = some y → ((A.zip B).drop k).all F = ((S.all fun s => fitsB x s == fitsB y s) && ((A.zip B).drop (k + 1)).all F) := fun k x y h1 h2 => by
      rw [drop_cons (hzk k x y h1 h2), List.all_cons, hF]
    obtain ⟨Z, hZ⟩ : ∃ Z : Nat → Bool, Z = fun k => ((A.zip B).drop k).all F := ⟨_, rfl⟩
    have hZ0 : r = Z 0 := by rw [hZ]; exact hr
    have hZe : Z c = true := by rw [hZ]; simp only; rw [List.drop_of_length_le (by omega)]; rfl
    replace hFd : ∀ k x y, A[k]? = some x → B[k]? = some y → Z k = ((S.all fun s => fitsB x s == fitsB y s) && Z (k + 1)) := by rw [hZ]; exact hFd
    clear hz hzk hZ hF hr F
    obtain ⟨ft, hft⟩ : ∃ f, f = fitsB := ⟨_, rfl⟩
    rw [← hft] at hFd hf
    clear hft
    refine CodeP.pre [(1, .slm 4 nbS SeenD.c S), (9, .slm 3 none IssuedD.c A), (10, .slm 3 none IssuedD.c B), (45, .int .i64 (.nat c)), (46, .int .i64 (.nat 0))] [.dead, .dead] ⟨⟨.refl _, .slm rfl (.inl ⟨_, _, rfl, rfl⟩) rfl (by simp only [IE.den]; rw [hc]) (fun e h => by cases h), .slm rfl (.inl ⟨_, _, rfl, rfl⟩) rfl (by simp only [IE.den]; rw [hd]) (fun e h => by cases h), .refl _, .eq (.int rfl), trivial⟩, ⟨.dead _, .dead _, trivial⟩, rfl⟩ (Nat.zero_le _) ?_
    refine CodeP.loopm hT hm (X := Nat) (fun k => [(46, .int .i64 (.nat k))]) (fun _ => [.dead, .dead]) (fun k => k ≤ c ∧ r = Z k) (fun k => c - k) 0 ⟨Nat.zero_le _, hZ0⟩ (fun _ => Nat.zero_le _) ⟨?_, ⟨.refl _, .refl _, trivial⟩, rfl⟩ ?_
    · (cbv; (repeat' (first | exact SnD.refl _ | exact trivial | exact SnD.nat0 | refine And.intro ?_ ?_)))
    intro i ⟨hi, hq⟩
    cbv
    refine SplitP.mk (fun hs => ?_) (fun hs => ?_)
    rotate_left
    · have h5 : decide ((i : Int) < (c : Int)) = false := hs
      have := of_decide_eq_false h5
      refine .mk (.cons (.eq (.bool ?_)) .nil) rfl
      rw [BE.lit_d, BE.var_d]
      rw [hq, show i = c by omega, hZe]
    have hic : i < c := by
      have h5 : decide ((i : Int) < (c : Int)) = true := hs
      have := of_decide_eq_true h5
      omega
    clear hs
    obtain ⟨x, hx⟩ : ∃ x, A[i]? = some x := ⟨_, List.getElem?_eq_getElem (by omega)⟩
    obtain ⟨y, hy⟩ : ∃ y, B[i]? = some y := ⟨_, List.getElem?_eq_getElem (by omega)⟩
    rw [hFd i x y hx hy] at hq
    have hfx := hf x (ma x (List.mem_of_getElem? hx))
    have hfy := hf y (mb y (List.mem_of_getElem? hy))
    obtain ⟨Zi, hZi⟩ : ∃ b, b = Z (i + 1) := ⟨_, rfl⟩
    rw [← hZi] at hq
    refine CodeP.loopm hT hm (X := Nat) (fun j => [(51, .int .i64 (.nat j))]) (fun _ => [.dead, .dead]) (fun j => j ≤ nS ∧ r = (((S.drop j).all fun s => ft x s == ft y s) && Zi)) (fun j => nS - j) 0 ⟨Nat.zero_le _, hq⟩ (fun _ => Nat.zero_le _) ⟨?_, ⟨.refl _, .refl _, trivial⟩, rfl⟩ ?_
    · (cbv; (repeat' (first | exact SnD.refl _ | exact trivial | exact SnD.nat0 | refine And.intro ?_ ?_)))
    intro j ⟨hj, hqj⟩
    cbv
    refine SplitP.mk (fun hs => ?_) (fun hs => ?_)
    rotate_left
    · have hkn : S.length ≤ j := by
        have h5 : decide ((j : Int) < (S.length : Int)) = false := hs
        have := of_decide_eq_false h5
        omega
      clear hs
      refine BackP.intro (i + 1) ⟨by omega, by rw [hqj, List.drop_of_length_le (by omega), ← hZi]; rfl⟩ (by show c - (i + 1) < c - i; omega) ⟨?_, ⟨.refl _, .refl _, trivial⟩, rfl⟩
      (cbv; (repeat' (first | exact SnD.refl _ | exact trivial | exact SnD.nat0 | refine And.intro ?_ ?_)))
      exact .inc (by omega)
    have hkn : j < S.length := by
      have h5 : decide ((j : Int) < (S.length : Int)) = true := hs
      have := of_decide_eq_true h5
      omega
    clear hs
    refine ElemP.mk (by show (0 : Int) ≤ (j : Int) ∧ (j : Int) < (S.length : Int); omega) (fun s hs => ?_)
    replace hs : S[j]? = some s := hs
    rw [drop_cons hs, List.all_cons] at hqj
    have hfx2 := hfx s (List.mem_of_getElem? hs)
    have hfy2 := hfy s (List.mem_of_getElem? hs)
    cbv
    refine ElemP.mk (by show (0 : Int) ≤ (i : Int) ∧ (i : Int) < (A.length : Int); omega) (fun x2 hx2 => ?_)
    replace hx2 : A[i]? = some x2 := hx2
    rw [hx] at hx2
    cases hx2
    cbv
    obtain ⟨bx, hbx⟩ : ∃ b, b = ft x s := ⟨_, rfl⟩
    obtain ⟨by_, hby⟩ : ∃ b, b = ft y s := ⟨_, rfl⟩
    rw [← hbx] at hfx2 hqj
    rw [← hby] at hfy2 hqj
    refine .mk _ hfx2 rfl ?_
    cbv
    refine ElemP.mk (by show (0 : Int) ≤ (i : Int) ∧ (i : Int) < (B.length : Int); omega) (fun y2 hy2 => ?_)
    replace hy2 : B[i]? = some y2 := hy2
    rw [hy] at hy2
    cases hy2
    cbv
    refine CallP.pure _ hfy2 rfl ?_
    cbv
    refine SplitP.mk (fun h5 => ?_) (fun h5 => ?_)
    · have h6 : (!(bx == by_)) = true := h5
      have h7 : (bx == by_) = false := by simpa using h6
      refine .mk (.cons (.eq (.bool ?_)) .nil) rfl
      rw [BE.lit_d, BE.var_d]
      rw [hqj, h7]; rfl
    · have h6 : (!(bx == by_)) = false := h5
      have h7 : (bx == by_) = true := by simpa using h6
      refine BackP.intro (j + 1) ⟨by omega, by rw [hqj, h7, Bool.true_and]⟩ (by show nS - (j + 1) < nS - j; omega) ⟨?_, ⟨.refl _, .refl _, trivial⟩, rfl⟩
      (cbv; (repeat' (first | exact SnD.refl _ | exact trivial | exact SnD.nat0 | refine And.intro ?_ ?_)))
      exact .inc (by omega)
end Go.Proofs.YtffmgfehaahlhaaDoor
namespace Go.Proofs.YtffmgfehaahlhaaDoor
open Go.RowKit

/-! Persons with like copies cannot be told apart. -/
/-- the exchange of the k-th elements of two lists -/
def exch (a b : List Nat) (c : Nat) : Nat := if c ∈ a then b.getD (a.idxOf c) c else if c ∈ b then a.getD (b.idxOf c) c else c
theorem exch_a {a b : List Nat} {k : Nat} (ha : a.Nodup) (hk : k < a.length) (hl : a.length = b.length) : exch a b a[k] = b[k]'(by omega) := by
  unfold exch
  rw [if_pos (List.getElem_mem _)]
  have : a.idxOf a[k] = k := by
    exact ha.idxOf_getElem k hk
  rw [this, List.getD_eq_getElem?_getD, List.getElem?_eq_getElem (by omega)]
  rfl
theorem exch_b {a b : List Nat} {k : Nat} (hb : b.Nodup) (hk : k < b.length) (hl : a.length = b.length) (hd : ∀ x ∈ a, x ∉ b) : exch a b b[k] = a[k]'(by omega) := by
  unfold exch
  rw [if_neg fun h => hd _ h (List.getElem_mem _), if_pos (List.getElem_mem _)]
  have : b.idxOf b[k] = k := by
    exact hb.idxOf_getElem k hk
  rw [this, List.getD_eq_getElem?_getD, List.getElem?_eq_getElem (by omega)]
  rfl
theorem exch_exch {a b : List Nat} (ha : a.Nodup) (hb : b.Nodup) (hl : a.length = b.length) (hd : ∀ x ∈ a, x ∉ b) (c : Nat) : exch a b (exch a b c) = c := by
  by_cases h1 : c ∈ a
  · obtain ⟨k, hk, rfl⟩ := List.getElem_of_mem h1
    rw [exch_a ha hk hl, exch_b hb (by omega) hl hd]
  · by_cases h2 : c ∈ b
    · obtain ⟨k, hk, rfl⟩ := List.getElem_of_mem h2
      rw [exch_b hb hk hl hd, exch_a ha (by omega) hl]
    · have : exch a b c = c := by unfold exch; rw [if_neg h1, if_neg h2]
      rw [this, this]
theorem iss_personX {I : List IssuedD} {S : List SeenD} (h : checkB I S = true) : ∀ x ∈ I, 0 ≤ x.person := fun x hx => (check_issued h hx).1
def getI (I : List IssuedD) (c : Nat) : IssuedD := (I[c]?).getD ⟨0, 0, true, []⟩
theorem getI_map (I : List IssuedD) : (List.range I.length).map (getI I) = I := by
  refine List.ext_getElem? fun i => ?_
  rw [List.getElem?_map]
  by_cases h : i < I.length
  · rw [List.getElem?_range h]
    simp [getI, h]
  · rw [List.getElem?_eq_none (by simpa using h), List.getElem?_eq_none (by omega)]
    rfl
def idxA (I : List IssuedD) (p : Int) : List Nat := (List.range I.length).filter fun c => decide ((getI I c).person = p)
def idxB (I : List IssuedD) (p q : Int) : List Nat := (List.range I.length).filter fun c => decide (¬ (getI I c).person = p ∧ (getI I c).person = q)
theorem copiesA_eq (I : List IssuedD) (p : Int) : copiesA I p = (idxA I p).map (getI I) := by
  unfold copiesA idxA
  conv => lhs; rw [← getI_map I]
  rw [List.filter_map]
  rfl
theorem copiesB_eq (I : List IssuedD) (p q : Int) : copiesB I p q = (idxB I p q).map (getI I) := by
  unfold copiesB idxB
  conv => lhs; rw [← getI_map I]
  rw [List.filter_map]
  rfl
theorem person_get {I : List IssuedD} {c : Nat} (hc : c < I.length) : personI I (c : Int) = (getI I c).person := by
  unfold personI getI
  rw [Int.toNat_natCast, List.getElem?_eq_getElem hc]
  rfl
theorem opt_get {I : List IssuedD} {S : List SeenD} {j c : Nat} {s : SeenD} (hc : c < I.length) (hs : S[j]? = some s) : optO I S j c = fitsB (getI I c) s := by
  unfold optO getI
  rw [List.getElem?_eq_getElem hc, hs]
  rfl
theorem range_filter_nodup (n : Nat) (P : Nat → Bool) : ((List.range n).filter P).Nodup := List.nodup_range.filter _
structure Swp (I : List IssuedD) (S : List SeenD) (p q : Int) (e : Nat → Nat) : Prop where
  inv : ∀ c, e (e c) = c
  lt : ∀ c, c < I.length → e c < I.length
  opt : ∀ j c, j < S.length → c < I.length → optO I S j (e c) = optO I S j c
  per : ∀ c, c < I.length → (getI I (e c)).person = swapI p q (getI I c).person
theorem alike_swp {I : List IssuedD} {S : List SeenD} {p q : Int} (hpq : p ≠ q) (h : alikeB I S p q = true) : Swp I S p q (exch (idxA I p) (idxB I p q)) := by
  unfold alikeB at h
  rw [copiesA_eq, copiesB_eq] at h
  simp only [Bool.and_eq_true, decide_eq_true_eq, List.length_map, List.all_eq_true] at h
  obtain ⟨hl, hz⟩ := h
  have na : (idxA I p).Nodup := range_filter_nodup _ _
  have nb : (idxB I p q).Nodup := range_filter_nodup _ _
  have ma : ∀ c, c ∈ idxA I p ↔ c < I.length ∧ (getI I c).person = p := fun c => by unfold idxA; simp
  have mb : ∀ c, c ∈ idxB I p q ↔ c < I.length ∧ ¬ (getI I c).person = p ∧ (getI I c).person = q := fun c => by unfold idxB; simp
  have hd : ∀ x ∈ idxA I p, x ∉ idxB I p q := fun x hx hy => ((mb x).1 hy).2.1 ((ma x).1 hx).2
  have hf : ∀ k (h1 : k < (idxA I p).length), ∀ s ∈ S, fitsB (getI I (idxA I p)[k]) s = fitsB (getI I ((idxB I p q)[k]'(by omega))) s := fun k h1 s hs => by
    have hm : (getI I (idxA I p)[k], getI I ((idxB I p q)[k]'(by omega))) ∈ ((idxA I p).map (getI I)).zip ((idxB I p q).map (getI I)) := by
      refine List.mem_of_getElem? (i := k) ?_
      rw [List.getElem?_zip_eq_some]
      simp [h1, show k < (idxB I p q).length by omega]
    have := hz _ hm s hs
    simpa using this
  refine ⟨exch_exch na nb hl hd, fun c hc => ?_, fun j c hj hc => ?_, fun c hc => ?_⟩
  · by_cases h1 : c ∈ idxA I p
    · obtain ⟨k, hk, rfl⟩ := List.getElem_of_mem h1
      rw [exch_a na hk hl]
      exact ((mb _).1 (List.getElem_mem _)).1
    · by_cases h2 : c ∈ idxB I p q
      · obtain ⟨k, hk, rfl⟩ := List.getElem_of_mem h2
        rw [exch_b nb hk hl hd]
        exact ((ma _).1 (List.getElem_mem _)).1
      · unfold exch
        rw [if_neg h1, if_neg h2]
        exact hc
  · have hs : S[j]? = some S[j] := List.getElem?_eq_getElem hj
    by_cases h1 : c ∈ idxA I p
    · obtain ⟨k, hk, rfl⟩ := List.getElem_of_mem h1
      rw [exch_a na hk hl, opt_get ((mb _).1 (List.getElem_mem _)).1 hs, opt_get hc hs, hf k hk S[j] (List.getElem_mem _)]
    · by_cases h2 : c ∈ idxB I p q
      · obtain ⟨k, hk, rfl⟩ := List.getElem_of_mem h2
        rw [exch_b nb hk hl hd, opt_get ((ma _).1 (List.getElem_mem _)).1 hs, opt_get hc hs, hf k (by omega) S[j] (List.getElem_mem _)]
      · unfold exch
        rw [if_neg h1, if_neg h2]
  · by_cases h1 : c ∈ idxA I p
    · obtain ⟨k, hk, rfl⟩ := List.getElem_of_mem h1
      rw [exch_a na hk hl, ((mb _).1 (List.getElem_mem _)).2.2, ((ma _).1 (List.getElem_mem _)).2]
      simp [swapI]
    · by_cases h2 : c ∈ idxB I p q
      · obtain ⟨k, hk, rfl⟩ := List.getElem_of_mem h2
        rw [exch_b nb hk hl hd, ((ma _).1 (List.getElem_mem _)).2, ((mb _).1 (List.getElem_mem _)).2.2]
        simp [swapI, Ne.symm hpq]
      · unfold exch
        rw [if_neg h1, if_neg h2]
        have h3 : (getI I c).person ≠ p := fun e => h1 ((ma c).2 ⟨hc, e⟩)
        have h4 : (getI I c).person ≠ q := fun e => h2 ((mb c).2 ⟨hc, h3, e⟩)
        simp [swapI, h3, h4]
theorem Way.swp {I : List IssuedD} {S : List SeenD} {p q : Int} {e : Nat → Nat} (he : Swp I S p q e) {f : Nat → Nat} (h : Way I S f) : Way I S (fun j => e (f j)) := by
  have hc : ∀ j, j < S.length → f j < I.length := fun j hj => (opt_iff.1 (h.opt j hj)).1
  refine ⟨fun j hj => by rw [he.opt j _ hj (hc j hj)]; exact h.opt j hj, fun a b ha hb hab => h.inj a b ha hb ?_, fun a b ha hb hg => ?_⟩
  · have := congrArg e hab
    simp only [he.inv] at this
    exact this
  · have h1 := h.grp a b ha hb hg
    rw [person_get (hc a ha), person_get (hc b hb)] at h1
    rw [person_get (he.lt _ (hc a ha)), person_get (he.lt _ (hc b hb)), he.per _ (hc a ha), he.per _ (hc b hb), h1]
theorem of_alike {I : List IssuedD} {S : List SeenD} {g p q : Int} (hpq : p ≠ q) (ho : okOf I S g = true) (h : alikeB I S p q = true) : p ∈ ofR I S g ↔ q ∈ ofR I S g := by
  unfold okOf at ho
  simp only [Bool.and_eq_true] at ho
  have hI := iss_personX ho.1
  have he := alike_swp hpq h
  have key : ∀ n m, swapI p q n = m → n ∈ ofR I S g → m ∈ ofR I S g := fun n m hnm hn => by
    obtain ⟨f, h1, h2⟩ := (of_way ho.2 hI).1 hn
    refine (of_way ho.2 hI).2 ⟨_, h1.swp he, fun j hj hg => ?_⟩
    have hc := (opt_iff.1 (h1.opt j hj)).1
    rw [person_get (he.lt _ hc), he.per _ hc, ← person_get hc, h2 j hj hg, hnm]
  exact ⟨key p q (by simp [swapI]), key q p (by simp [swapI, Ne.symm hpq])⟩
end Go.Proofs.YtffmgfehaahlhaaDoor
namespace Go.Proofs.YtffmgfehaahlhaaDoor
open Go.RowKit

/-! Lists of numbers below n, counted through: the list number t. -/
def dig (n t k : Nat) : Nat := t / n ^ k % n
theorem dig_succ (n t k : Nat) : dig n t (k + 1) = dig n (t / n) k := by
  unfold dig
  rw [Nat.pow_succ, Nat.mul_comm (n ^ _) n, ← Nat.div_div_eq_div_mul]
theorem dig_lt {n t k : Nat} (hn : 0 < n) : dig n t k < n := Nat.mod_lt _ hn
/-- every choice is one of the lists -/
theorem nth_of {n : Nat} (f : Nat → Nat) : ∀ m, (∀ j, j < m → f j < n) → ∃ t, t < n ^ m ∧ ∀ j, j < m → dig n t (m - 1 - j) = f j
  | 0, _ => ⟨0, by simp, fun j hj => by omega⟩
  | m + 1, h => by
    obtain ⟨t, h1, h2⟩ := nth_of f m fun j hj => h j (by omega)
    have h3 := h m (by omega)
    have hn : 0 < n := by omega
    have e1 : (t * n + f m) / n = t := by
      rw [Nat.mul_comm, Nat.mul_add_div hn, Nat.div_eq_of_lt h3, Nat.add_zero]
    refine ⟨t * n + f m, ?_, fun j hj => ?_⟩
    · rw [Nat.pow_succ]
      have : (t + 1) * n ≤ n ^ m * n := Nat.mul_le_mul_right _ h1
      rw [Nat.add_mul, Nat.one_mul] at this
      omega
    · by_cases e : j = m
      · subst e
        unfold dig
        rw [show j + 1 - 1 - j = 0 by omega, Nat.pow_zero, Nat.div_one, Nat.mul_comm, Nat.mul_add_mod, Nat.mod_eq_of_lt h3]
      · rw [← h2 j (by omega), show m + 1 - 1 - j = (m - 1 - j) + 1 by omega, dig_succ, e1]
/-- the order of the lists -/
theorem dig_lex {n : Nat} : ∀ m t u, t < u → u < n ^ m → ∃ k, k < m ∧ (∀ k', k < k' → k' < m → dig n t k' = dig n u k') ∧ dig n t k < dig n u k
  | 0, t, u, h, h2 => by simp at h2; omega
  | m + 1, t, u, h, h2 => by
    have hn : 0 < n := by
      rcases Nat.eq_zero_or_pos n with e | e
      · subst e; simp at h2
      · exact e
    have d1 := Nat.div_add_mod t n
    have d2 := Nat.div_add_mod u n
    have hle : t / n ≤ u / n := Nat.div_le_div_right (by omega)
    by_cases e : t / n = u / n
    · refine ⟨0, by omega, fun k' h3 _ => ?_, ?_⟩
      · obtain ⟨k, rfl⟩ : ∃ k, k' = k + 1 := ⟨k' - 1, by omega⟩
        rw [dig_succ, dig_succ, e]
      · unfold dig
        simp only [Nat.pow_zero, Nat.div_one]
        rw [e] at d1
        omega
    · obtain ⟨k, h3, h4, h5⟩ := dig_lex m (t / n) (u / n) (by omega) (by rw [Nat.div_lt_iff_lt_mul hn, ← Nat.pow_succ]; exact h2)
      refine ⟨k + 1, by omega, fun k' h6 h7 => ?_, by rw [dig_succ, dig_succ]; exact h5⟩
      obtain ⟨k2, rfl⟩ : ∃ k, k' = k + 1 := ⟨k' - 1, by omega⟩
      rw [dig_succ, dig_succ]
      exact h4 k2 (by omega) (by omega)
/-- the list number t, its last j elements put back to nothing -/
def nxL (n m t j : Nat) : List Nat := (List.range m).map fun i => if m ≤ i + j then 0 else dig n t (m - 1 - i)
theorem nxL_len (n m t j : Nat) : (nxL n m t j).length = m := by simp [nxL]
theorem nxL_get {n m t j i : Nat} (hi : i < m) : (nxL n m t j)[i]? = some (if m ≤ i + j then 0 else dig n t (m - 1 - i)) := by simp [nxL, hi]
theorem nxL_at {n m t j : Nat} (hj : j < m) : (nxL n m t j)[m - 1 - j]? = some (dig n t j) := by
  rw [nxL_get (by omega), if_neg (by omega), show m - 1 - (m - 1 - j) = j by omega]
theorem carry {n t j : Nat} (h : (t + 1) % n ^ j = 0) (hn : 0 < n) : ∃ q, t + 1 = n ^ j * (q + 1) ∧ t / n ^ j = q ∧ (t + 1) / n ^ j = q + 1 := by
  have hp : 0 < n ^ j := Nat.pow_pos hn
  obtain ⟨q, hq⟩ := Nat.dvd_of_mod_eq_zero h
  cases q with
  | zero => simp at hq
  | succ q =>
    refine ⟨q, hq, ?_, by rw [hq, Nat.mul_div_cancel_left _ hp]⟩
    have : t = n ^ j * q + (n ^ j - 1) := by rw [Nat.mul_add, Nat.mul_one] at hq; omega
    rw [this, Nat.mul_add_div hp, Nat.div_eq_of_lt (by omega), Nat.add_zero]
theorem dig_low {n t j k : Nat} (h : (t + 1) % n ^ j = 0) (hk : k < j) : dig n (t + 1) k = 0 := by
  obtain ⟨q, hq⟩ := Nat.dvd_of_mod_eq_zero h
  unfold dig
  rw [← Nat.mod_mul_right_div_self, ← Nat.pow_succ, hq, Nat.mod_eq_zero_of_dvd, Nat.zero_div]
  exact Nat.dvd_trans (Nat.pow_dvd_pow n hk) (Nat.dvd_mul_right _ _)
theorem mod_succ {n q : Nat} (h : q % n + 1 < n) : (q + 1) % n = q % n + 1 ∧ (q + 1) / n = q / n := by
  have hn : 0 < n := by omega
  have d := Nat.div_add_mod q n
  have e : q + 1 = n * (q / n) + (q % n + 1) := by omega
  constructor
  · rw [e, Nat.mul_add_mod, Nat.mod_eq_of_lt h]
  · rw [e, Nat.mul_add_div hn, Nat.div_eq_of_lt h]
    omega
theorem nx_up {n m t j : Nat} (h : (t + 1) % n ^ j = 0) (hj : j < m) (hd : dig n t j + 1 < n) (ht : t < n ^ m) : (nxL n m t j).set (m - 1 - j) (dig n t j + 1) = nxL n m (t + 1) 0 ∧ t + 1 < n ^ m := by
  have hn : 0 < n := by omega
  obtain ⟨q, q1, q2, q3⟩ := carry h hn
  unfold dig at hd
  rw [q2] at hd
  obtain ⟨s1, s2⟩ := mod_succ hd
  have e0 : dig n t j = q % n := by unfold dig; rw [q2]
  have e1 : dig n (t + 1) j = q % n + 1 := by unfold dig; rw [q3, s1]
  have e2 : ∀ k, j < k → dig n (t + 1) k = dig n t k := fun k hk => by
    unfold dig
    obtain ⟨i, rfl⟩ : ∃ i, k = j + 1 + i := ⟨k - (j + 1), by omega⟩
    rw [Nat.pow_add, Nat.pow_succ, ← Nat.div_div_eq_div_mul, ← Nat.div_div_eq_div_mul, ← Nat.div_div_eq_div_mul, ← Nat.div_div_eq_div_mul, q2, q3, s2]
  constructor
  · refine List.ext_getElem? fun i => ?_
    by_cases hi : i < m
    · rw [List.getElem?_set, nxL_len, nxL_get hi, nxL_get hi]
      by_cases e : m - 1 - j = i
      · rw [if_pos e, if_pos (by omega), if_neg (by omega), show m - 1 - i = j by omega, e1, e0]
      · rw [if_neg e, if_neg (show ¬ m ≤ i + 0 by omega)]
        by_cases q : m ≤ i + j
        · rw [if_pos q, dig_low h (by omega)]
        · rw [if_neg q, e2 _ (by omega)]
    · rw [List.getElem?_eq_none (by simp [nxL_len]; omega), List.getElem?_eq_none (by simp [nxL_len]; omega)]
  · rcases Nat.lt_or_ge (t + 1) (n ^ m) with a | a
    · exact a
    · have e : t + 1 = n ^ m := by omega
      have : n ^ m = n ^ j * n ^ (m - j) := by rw [← Nat.pow_add]; congr 1; omega
      rw [q1, this] at e
      have := Nat.eq_of_mul_eq_mul_left (Nat.pow_pos hn) e
      have e5 : n ^ (m - j) % n = 0 := by
        obtain ⟨i, hi⟩ : ∃ i, m - j = i + 1 := ⟨m - j - 1, by omega⟩
        rw [hi, Nat.pow_succ, Nat.mul_mod_left]
      rw [← this] at e5
      omega
theorem nx_carry {n m t j : Nat} (h : (t + 1) % n ^ j = 0) (hj : j < m) (hn : 0 < n) (hd : ¬ dig n t j + 1 < n) : (nxL n m t j).set (m - 1 - j) 0 = nxL n m t (j + 1) ∧ (t + 1) % n ^ (j + 1) = 0 := by
  constructor
  · refine List.ext_getElem? fun i => ?_
    by_cases hi : i < m
    · rw [List.getElem?_set, nxL_len, nxL_get hi, nxL_get hi]
      by_cases e : m - 1 - j = i
      · rw [if_pos e, if_pos (by omega), if_pos (by omega)]
      · rw [if_neg e]
        by_cases q : m ≤ i + j
        · rw [if_pos q, if_pos (by omega)]
        · rw [if_neg q, if_neg (by omega)]
    · rw [List.getElem?_eq_none (by simp [nxL_len]; omega), List.getElem?_eq_none (by simp [nxL_len]; omega)]
  · obtain ⟨q, q1, q2, q3⟩ := carry h hn
    have h2 : q % n = n - 1 := by
      have := Nat.mod_lt q hn
      unfold dig at hd
      rw [q2] at hd
      omega
    have d := Nat.div_add_mod q n
    have e : q + 1 = n * (q / n + 1) := by rw [Nat.mul_add, Nat.mul_one]; omega
    rw [q1, e, Nat.pow_succ, ← Nat.mul_assoc, Nat.mul_mod_right]
theorem nx_end {n m t : Nat} (h : (t + 1) % n ^ m = 0) (ht : t < n ^ m) : t + 1 = n ^ m := by
  rcases Nat.lt_or_ge (t + 1) (n ^ m) with a | a
  · rw [Nat.mod_eq_of_lt a] at h; omega
  · omega
theorem nxL_zero (n m : Nat) : nxL n m 0 0 = List.replicate m 0 := by
  refine List.ext_getElem? fun i => ?_
  by_cases hi : i < m
  · rw [nxL_get hi, if_neg (by omega)]
    simp [dig, hi]
  · rw [List.getElem?_eq_none (by simp [nxL_len]; omega), List.getElem?_eq_none (by simp; omega)]
end Go.Proofs.YtffmgfehaahlhaaDoor
namespace Go.Proofs.YtffmgfehaahlhaaDoor
open Go.RowKit

/-! PossibleExact: all lists of copies, one behind the other. -/
theorem Way.congr {I : List IssuedD} {S : List SeenD} {f g : Nat → Nat} (h : Way I S f) (he : ∀ j, j < S.length → g j = f j) : Way I S g :=
  ⟨fun j hj => by rw [he j hj]; exact h.opt j hj, fun a b ha hb e => h.inj a b ha hb (by rw [← he a ha, ← he b hb, e]), fun a b ha hb hg => by rw [he a ha, he b hb]; exact h.grp a b ha hb hg⟩
theorem Way.lt {I : List IssuedD} {S : List SeenD} {f : Nat → Nat} (h : Way I S f) {j : Nat} (hj : j < S.length) : f j < I.length := (opt_iff.1 (h.opt j hj)).1
/-- a list of copies, by its numbers -/
def lstI (I : List IssuedD) (S : List SeenD) (t : Nat) : List Int := (nxL I.length S.length t 0).map fun k : Nat => (k : Int)
def pick (I : List IssuedD) (S : List SeenD) (t j : Nat) : Nat := dig I.length t (S.length - 1 - j)
theorem lst_len (I : List IssuedD) (S : List SeenD) (t : Nat) : (lstI I S t).length = S.length := by simp [lstI, nxL_len]
theorem lst_get {I : List IssuedD} {S : List SeenD} {t j : Nat} (hj : j < S.length) : (lstI I S t)[j]? = some (pick I S t j : Int) := by
  unfold lstI pick
  rw [List.getElem?_map, nxL_get hj, if_neg (by omega)]
  rfl
def exN (I : List IssuedD) (S : List SeenD) (t : Nat) : Bool := explB I S (lstI I S t)
theorem exN_ext {I : List IssuedD} {S : List SeenD} {t : Nat} : exN I S t = true ↔ Ext I S 0 (-1) (lstI I S t) := by
  unfold exN
  rw [explB_iff]
  constructor
  · intro h
    exact ⟨_, ⟨h, fun i c _ hp => by omega⟩, lst_len I S t, List.prefix_refl _⟩
  · rintro ⟨l, h1, h2, h3⟩
    exact h1.ex.pre h3
theorem exN_way {I : List IssuedD} {S : List SeenD} {t : Nat} : exN I S t = true ↔ Way I S (pick I S t) := by
  rw [exN_ext, ext_iff (by rw [lst_len]; exact Nat.le_refl _)]
  constructor
  · rintro ⟨f, h1, _, h3⟩
    refine h1.congr fun j hj => ?_
    have := h3 j (by rw [lst_len]; exact hj)
    rw [lst_get hj] at this
    simp only [Option.some.injEq] at this
    omega
  · intro h
    exact ⟨_, h, fun j _ hp => by omega, fun j hj => lst_get (by rw [lst_len] at hj; exact hj)⟩
theorem way_exN {I : List IssuedD} {S : List SeenD} {f : Nat → Nat} (h : Way I S f) : ∃ t, t < I.length ^ S.length ∧ exN I S t = true ∧ ∀ j, j < S.length → pick I S t j = f j := by
  obtain ⟨t, h1, h2⟩ := nth_of f S.length fun j hj => h.lt hj
  exact ⟨t, h1, exN_way.2 (h.congr h2), h2⟩
/-- what the search finds leaves out nothing that is less -/
theorem first_least {I : List IssuedD} {S : List SeenD} {g p : Int} : ∀ (f : Nat) (cs l : List Int), cs.length + f = S.length → Good I S g p cs → firstR I S g p f cs = some l → ∀ i, cs.length ≤ i → i < S.length → ∀ (d : Nat) (c : Int), l[i]? = some c → (d : Int) < c → ¬ Ext I S g p (l.take i ++ [(d : Int)])
  | 0, cs, l, hl, _, _, i, h1, h2, _, _, _, _ => by omega
  | f + 1, cs, l, hl, hc, h, i, h1, h2, d, c, hd, hlt => by
    have key : ∀ (r k : Nat), findN (tryF I S g p (firstR I S g p f) cs) r k = some l → ∃ c, tryF I S g p (firstR I S g p f) cs c = some l ∧ ∀ d, k ≤ d → d < c → tryF I S g p (firstR I S g p f) cs d = none := fun r => by
      induction r with
      | zero => intro k h; cases h
      | succ r ih =>
        intro k h
        simp only [findN] at h
        split at h
        · next y hy =>
          simp only [Option.some.injEq] at h
          subst h
          exact ⟨k, hy, fun d h1 h2 => by omega⟩
        · next hn =>
          obtain ⟨c, h3, h4⟩ := ih (k + 1) h
          refine ⟨c, h3, fun d h1 h2 => ?_⟩
          by_cases e : d = k
          · rw [e]; exact hn
          · exact h4 d (by omega) h2
    obtain ⟨c0, h3, h4⟩ := key _ _ h
    obtain ⟨h5, h6⟩ := try_good hc h3
    obtain ⟨_, _, h7⟩ := first_some f _ _ (by simp; omega) h5 h6
    by_cases e : i = cs.length
    · subst e
      have h8 : l.take cs.length = cs := by
        obtain ⟨u, rfl⟩ := h7
        simp
      have h9 : l[cs.length]? = some (c0 : Int) := get_pre h7 (by simp)
      rw [h9] at hd
      simp only [Option.some.injEq] at hd
      rw [h8]
      intro hx
      have hn := h4 d (Nat.zero_le _) (by omega)
      rw [try_ext hx.good] at hn
      have := (first_iff f (cs ++ [(d : Int)]) (by simp; omega) hx.good).2 hx
      rw [hn] at this
      cases this
    · exact first_least f _ _ (by simp; omega) h5 h6 i (by simp; omega) h2 d c hd hlt
/-- the first explanation is the one of the least number -/
theorem first_lst {I : List IssuedD} {S : List SeenD} {t : Nat} (ht : t < I.length ^ S.length) (he : exN I S t = true) (hl : ∀ u, u < t → exN I S u = false) : firstR I S 0 (-1) S.length [] = some (lstI I S t) := by
  have hsome := (first_iff S.length [] (by simp) (good_nil I S 0 (-1))).2 (exN_ext.1 he |>.pre (List.nil_prefix))
  cases hf : firstR I S 0 (-1) S.length [] with
  | none => rw [hf] at hsome; cases hsome
  | some l =>
    obtain ⟨h1, h2, _⟩ := first_some _ _ _ (by simp) (good_nil I S 0 (-1)) hf
    have hle := first_least _ _ _ (by simp) (good_nil I S 0 (-1)) hf
    have hx : Ext I S 0 (-1) l := ⟨l, h1, h2, List.prefix_refl _⟩
    obtain ⟨f, w1, _, w3⟩ := (ext_iff (by omega)).1 hx
    obtain ⟨u, u1, u2, u3⟩ := way_exN w1
    have hlu : l = lstI I S u := by
      refine List.ext_getElem? fun j => ?_
      by_cases hj : j < S.length
      · rw [lst_get hj, u3 j hj, w3 j (by omega)]
      · rw [List.getElem?_eq_none (by omega), List.getElem?_eq_none (by rw [lst_len]; omega)]
    have : u = t := by
      rcases Nat.lt_trichotomy t u with q | q | q
      · exfalso
        obtain ⟨k, k1, k2, k3⟩ := dig_lex S.length t u q u1
        have hi : S.length - 1 - k < S.length := by omega
        have hpi : ∀ t, pick I S t (S.length - 1 - k) = dig I.length t k := fun t => by
          unfold pick
          rw [show S.length - 1 - (S.length - 1 - k) = k by omega]
        refine hle (S.length - 1 - k) (Nat.zero_le _) hi (pick I S t (S.length - 1 - k)) _ (by rw [hlu]; exact lst_get hi) (by rw [hpi, hpi]; omega) ?_
        refine (exN_ext.1 he).pre ?_
        rw [List.prefix_iff_eq_take]
        refine List.ext_getElem? fun j => ?_
        have hll : (l.take (S.length - 1 - k)).length = S.length - 1 - k := by rw [List.length_take]; omega
        rw [List.length_append, hll, List.length_singleton, List.getElem?_take]
        by_cases hj : j < S.length - 1 - k
        · rw [List.getElem?_append_left (by omega), List.getElem?_take, if_pos hj, if_pos (by omega), hlu, lst_get (by omega), lst_get (by omega)]
          unfold pick
          rw [k2 (S.length - 1 - j) (by omega) (by omega)]
        · by_cases e : j = S.length - 1 - k
          · subst e
            rw [List.getElem?_append_right (by omega), hll, if_pos (by omega), lst_get (by omega)]
            simp
          · rw [List.getElem?_append_right (by omega), if_neg (by omega), List.getElem?_eq_none (by simp; omega)]
      · exact q.symm
      · rw [hl u q] at u2; cases u2
    rw [hlu, this]
/-- the first explanation among the first t lists -/
def scF (I : List IssuedD) (S : List SeenD) : Nat → Option (List Int)
  | 0 => none
  | t + 1 => match scF I S t with
    | some l => some l
    | none => if exN I S t then some (lstI I S t) else none
theorem scF_none {I : List IssuedD} {S : List SeenD} : ∀ {t : Nat}, scF I S t = none → ∀ u, u < t → exN I S u = false
  | 0, _, u, h => by omega
  | t + 1, h, u, hu => by
    simp only [scF] at h
    split at h
    · cases h
    · next hn =>
      by_cases e : u = t
      · subst e
        cases hx : exN I S u with
        | false => rfl
        | true => rw [hx] at h; cases h
      · exact scF_none hn u (by omega)
theorem scF_some {I : List IssuedD} {S : List SeenD} : ∀ {t : Nat} {l : List Int}, scF I S t = some l → ∃ u, u < t ∧ exN I S u = true ∧ (∀ v, v < u → exN I S v = false) ∧ l = lstI I S u
  | 0, _, h => by cases h
  | t + 1, l, h => by
    simp only [scF] at h
    split at h
    · next l' hl =>
      simp only [Option.some.injEq] at h
      subst h
      obtain ⟨u, h1, h2⟩ := scF_some hl
      exact ⟨u, by omega, h2⟩
    · next hn =>
      split at h
      · next hx =>
        simp only [Option.some.injEq] at h
        exact ⟨t, by omega, hx, scF_none hn, h.symm⟩
      · cases h
theorem scF_all (I : List IssuedD) (S : List SeenD) : scF I S (I.length ^ S.length) = firstR I S 0 (-1) S.length [] := by
  cases h : scF I S (I.length ^ S.length) with
  | some l =>
    obtain ⟨u, h1, h2, h3, rfl⟩ := scF_some h
    exact (first_lst h1 h2 h3).symm
  | none =>
    cases hf : firstR I S 0 (-1) S.length [] with
    | none => rfl
    | some l =>
      obtain ⟨f, hw⟩ := any_way.1 (by rw [hf]; rfl)
      obtain ⟨u, u1, u2, _⟩ := way_exN hw
      rw [scF_none h u u1] at u2
      cases u2
/-- a person is put among those that were met -/
def insP (L : List Int) (p : Int) : List Int := if p ∈ L then L else L ++ [p]
theorem ins_mem {L : List Int} {p x : Int} : x ∈ insP L p ↔ x ∈ L ∨ x = p := by
  unfold insP
  split
  · next h => exact ⟨.inl, fun q => q.elim id fun e => e ▸ h⟩
  · simp
theorem ins_nodup {L : List Int} {p : Int} (h : L.Nodup) : (insP L p).Nodup := by
  unfold insP
  split
  · exact h
  · next hn => exact List.nodup_append.2 ⟨h, by simp, fun a ha b hb e => by simp at hb; subst hb; subst e; exact hn ha⟩
def mtI (I : List IssuedD) (S : List SeenD) (g : Int) (t : Nat) (L : List Int) : Nat → List Int
  | 0 => L
  | i + 1 => if groupS S i = g then insP (mtI I S g t L i) (personI I (pick I S t i : Int)) else mtI I S g t L i
def scM (I : List IssuedD) (S : List SeenD) (g : Int) : Nat → List Int
  | 0 => []
  | t + 1 => if exN I S t then mtI I S g t (scM I S g t) S.length else scM I S g t
theorem mt_nodup {I : List IssuedD} {S : List SeenD} {g : Int} {t : Nat} {L : List Int} (h : L.Nodup) : ∀ i, (mtI I S g t L i).Nodup
  | 0 => h
  | i + 1 => by
    unfold mtI
    split
    · exact ins_nodup (mt_nodup h i)
    · exact mt_nodup h i
theorem scM_nodup (I : List IssuedD) (S : List SeenD) (g : Int) : ∀ t, (scM I S g t).Nodup
  | 0 => by simp [scM]
  | t + 1 => by
    unfold scM
    split
    · exact mt_nodup (scM_nodup I S g t) _
    · exact scM_nodup I S g t
theorem mt_mem {I : List IssuedD} {S : List SeenD} {g : Int} {t : Nat} {L : List Int} {x : Int} : ∀ i, x ∈ mtI I S g t L i ↔ x ∈ L ∨ ∃ j, j < i ∧ groupS S j = g ∧ personI I (pick I S t j : Int) = x
  | 0 => by simp [mtI]
  | i + 1 => by
    have ih := mt_mem (I := I) (S := S) (g := g) (t := t) (L := L) (x := x) i
    unfold mtI
    split
    · next h =>
      rw [ins_mem, ih]
      constructor
      · rintro ((q | ⟨j, h1, h2⟩) | q)
        · exact .inl q
        · exact .inr ⟨j, by omega, h2⟩
        · exact .inr ⟨i, by omega, h, q.symm⟩
      · rintro (q | ⟨j, h1, h2, h3⟩)
        · exact .inl (.inl q)
        · by_cases e : j = i
          · subst e; exact .inr h3.symm
          · exact .inl (.inr ⟨j, by omega, h2, h3⟩)
    · next h =>
      rw [ih]
      constructor
      · rintro (q | ⟨j, h1, h2⟩)
        · exact .inl q
        · exact .inr ⟨j, by omega, h2⟩
      · rintro (q | ⟨j, h1, h2, h3⟩)
        · exact .inl q
        · by_cases e : j = i
          · subst e; exact absurd h2 h
          · exact .inr ⟨j, by omega, h2, h3⟩
theorem scM_mem {I : List IssuedD} {S : List SeenD} {g x : Int} : ∀ t, x ∈ scM I S g t ↔ ∃ u, u < t ∧ exN I S u = true ∧ ∃ j, j < S.length ∧ groupS S j = g ∧ personI I (pick I S u j : Int) = x
  | 0 => by simp [scM]
  | t + 1 => by
    have ih := scM_mem (I := I) (S := S) (g := g) (x := x) t
    unfold scM
    split
    · next h =>
      rw [mt_mem, ih]
      constructor
      · rintro (⟨u, h1, h2⟩ | q)
        · exact ⟨u, by omega, h2⟩
        · exact ⟨t, by omega, h, q⟩
      · rintro ⟨u, h1, h2, h3⟩
        by_cases e : u = t
        · subst e; exact .inr h3
        · exact .inl ⟨u, by omega, h2, h3⟩
    · next h =>
      rw [ih]
      constructor
      · rintro ⟨u, h1, h2⟩
        exact ⟨u, by omega, h2⟩
      · rintro ⟨u, h1, h2, h3⟩
        by_cases e : u = t
        · subst e; exact absurd h2 h
        · exact ⟨u, by omega, h2, h3⟩
/-- those that were met are the possible holders -/
theorem scM_of {I : List IssuedD} {S : List SeenD} {g p : Int} (ho : okOf I S g = true) : p ∈ scM I S g (I.length ^ S.length) ↔ p ∈ ofR I S g := by
  unfold okOf at ho
  simp only [Bool.and_eq_true] at ho
  rw [scM_mem, of_way ho.2 (iss_personX ho.1)]
  constructor
  · rintro ⟨u, h1, h2, j, h3, h4, h5⟩
    have hw := exN_way.1 h2
    exact ⟨_, hw, fun i hi hg => by rw [← h5]; exact hw.grp i j hi h3 (by rw [hg, h4])⟩
  · rintro ⟨f, h1, h2⟩
    obtain ⟨u, u1, u2, u3⟩ := way_exN h1
    obtain ⟨j, hj, hg⟩ := occ_iff.1 ho.2
    exact ⟨u, u1, u2, j, hj, hg, by rw [u3 j hj]; exact h2 j hj hg⟩
theorem scM_len {I : List IssuedD} {S : List SeenD} {g : Int} (ho : okOf I S g = true) : (ofR I S g).length = (scM I S g (I.length ^ S.length)).length := by
  have h1 := nodup_le (of_nodup I S g) fun n hn => (scM_of ho).2 hn
  have h2 := nodup_le (scM_nodup I S g (I.length ^ S.length)) fun n hn => (scM_of ho).1 hn
  omega
theorem of_sorted (I : List IssuedD) (S : List SeenD) (g : Int) : (ofR I S g).Pairwise (· < ·) := by
  unfold ofR
  exact (people_sorted I).filter _
/-- how many may be met -/
theorem scM_le (I : List IssuedD) (S : List SeenD) (g : Int) (t : Nat) : (scM I S g t).length ≤ I.length := by
  have h := nodup_le (b := I.map (·.person)) (scM_nodup I S g t) fun n hn => by
    obtain ⟨u, _, h2, j, h3, _, h5⟩ := (scM_mem t).1 hn
    have hc := (exN_way.1 h2).lt h3
    rw [← h5]
    refine List.mem_map.2 ⟨I[pick I S u j], List.getElem_mem _, ?_⟩
    unfold personI
    rw [Int.toNat_natCast, List.getElem?_eq_getElem hc]
  simpa using h
end Go.Proofs.YtffmgfehaahlhaaDoor
namespace Go.Proofs.YtffmgfehaahlhaaDoor
open Go.RowKit

/-! Walks cut at a state that is named: what comes behind is walked once. -/
def entX (fr1 : Fr) (H1 : List Bk) (e : Exit) (fr : Fr) (H : List Bk) : Prop := match e with
  | .normal => EntP fr H fr1 H1
  | e => StuckX e
theorem CodeP.seqTo {P : Program} {cx : Cx} {c d : Code} {fr : Fr} {H : List Bk} {K : Exit → Fr → List Bk → Prop} (fr1 : Fr) (H1 : List Bk) (hh : cx.h0 ≤ H1.length) (h1 : CodeP P cx c fr H (thenK (fun fr H => EntP fr H fr1 H1) K)) (h2 : CodeP P cx d fr1 H1 K) : CodeP P cx (.seq c d) fr H K := by
  refine ⟨fun B E a w hnt hr => wp_seq (Code.wp_mono (fun e a' w' ⟨fr', H', E', q1, q2⟩ => ?_) (h1.run B E a w hnt hr))⟩
  cases e <;> first | exact h2.run B _ a' w' hnt (EntP.rel (Nat.le_trans hnt.2 hh) q1 q2) | exact ⟨fr', H', E', q1, q2⟩
/-- the same, with something that was learnt on the way -/
theorem CodeP.seqW {P : Program} {cx : Cx} {c d : Code} {fr : Fr} {H : List Bk} {K : Exit → Fr → List Bk → Prop} (L : Unit → Prop) (fr1 : Fr) (H1 : List Bk) (hh : cx.h0 ≤ H1.length) (h1 : CodeP P cx c fr H (thenK (fun fr H => L () ∧ EntP fr H fr1 H1) K)) (h2 : L () → CodeP P cx d fr1 H1 K) : CodeP P cx (.seq c d) fr H K := by
  refine ⟨fun B E a w hnt hr => wp_seq (Code.wp_mono (fun e a' w' ⟨fr', H', E', q1, q2⟩ => ?_) (h1.run B E a w hnt hr))⟩
  cases e <;> first | exact (h2 q1.1).run B _ a' w' hnt (EntP.rel (Nat.le_trans hnt.2 hh) q1.2 q2) | exact ⟨fr', H', E', q1, q2⟩
theorem CodeP.block {P : Program} {cx : Cx} {id : Nat} {c : Code} {fr : Fr} {H : List Bk} {K : Exit → Fr → List Bk → Prop} (h : CodeP P cx c fr H (blockK id K)) : CodeP P cx (.block id c) fr H K := by
  refine ⟨fun B E a w hnt hr => wp_block (Code.wp_mono (fun e a' w' ⟨fr', H', E', q1, q2⟩ => ?_) (h.run B E a w hnt hr))⟩
  cases e with
  | exit i =>
    simp only [blockK] at q1
    simp only [Exit.inBlock]
    split at q1
    · next e => rw [if_pos e]; exact ⟨fr', H', E', q1, q2⟩
    · next e => rw [if_neg e]; exact ⟨fr', H', E', q1, q2⟩
  | _ => exact ⟨fr', H', E', q1, q2⟩
theorem CodeP.loopP {P : Program} {cx : Cx} {c : Code} {fr : Fr} {H : List Bk} {K : Exit → Fr → List Bk → Prop} {X : Type} (fr' : X → Fr) (H' : X → List Bk) (I : X → Prop) (μ : X → Nat) (x0 : X) (hI : I x0) (hh : ∀ x, cx.h0 ≤ (H' x).length)
    (he : EntP fr H (fr' x0) (H' x0)) (round : ∀ x, I x → CodeP P cx c (fr' x) (H' x) (loopK fr' H' I μ x K)) : CodeP P cx (.loop c) fr H K := by
  refine ⟨fun B E a w hnt hr b k cs => ?_⟩
  have key : ∀ (n : Nat) (x : X), μ x = n → I x → ∀ (E : Env) (a : Act) (w : World), Rel B ⟨fr' x, H' x⟩ E a w →
      ∃ e a' w', (∃ fr'' H'' E', K e fr'' H'' ∧ Rel B ⟨fr'', H''⟩ E' a' w') ∧ Arrives P (lone (b.at a (.code c :: .inLoop c :: k)) cs w) b k cs e a' w' := by
    intro n
    induction n using Nat.strongRecOn with
    | _ n ih =>
      intro x hn hx E a w hr
      obtain ⟨e, a1, w1, ⟨fr2, H2, E2, hq, hr2⟩, harr⟩ := (round x hx).run B E a w hnt hr b (.inLoop c :: k) cs
      cases e with
      | normal =>
        obtain ⟨y, hy, hlt, hent⟩ := hq.out
        obtain ⟨e3, a3, w3, hq3, harr3⟩ := ih (μ y) (hn ▸ hlt) y rfl hy _ a1 w1 (hent.rel (Nat.le_trans hnt.2 (hh y)) hr2)
        exact ⟨e3, a3, w3, hq3, .of_steps (Steps.trans harr (.one step_inLoop)) harr3⟩
      | exit id => exact ⟨_, a1, w1, ⟨fr2, H2, E2, hq, hr2⟩, .pass (x := .inLoop c) rfl (fun _ _ => .inl (by simp)) harr⟩
      | goto l => exact ⟨_, a1, w1, ⟨fr2, H2, E2, hq, hr2⟩, .pass (x := .inLoop c) rfl (fun _ _ => .inl (by simp)) harr⟩
      | ret => exact ⟨_, a1, w1, ⟨fr2, H2, E2, hq, hr2⟩, .pass (x := .inLoop c) rfl (fun _ _ => .inl (by simp)) harr⟩
      | panic ch => exact ⟨_, a1, w1, ⟨fr2, H2, E2, hq, hr2⟩, .pass (x := .inLoop c) rfl (fun _ _ => .inl (by simp)) harr⟩
      | outgrown => exact ⟨_, a1, w1, ⟨fr2, H2, E2, hq, hr2⟩, .pass (x := .inLoop c) rfl (fun _ _ => .inl (by simp)) harr⟩
  obtain ⟨e, a', w', hq, harr⟩ := key _ x0 rfl hI _ a w (he.rel (Nat.le_trans hnt.2 (hh x0)) hr)
  exact ⟨e, a', w', hq, .of_steps (.one step_loop) harr⟩
theorem mp_start0 {H H' : List Bk} {S : Int → Bool} {n : Nat} (hS : ∀ x, S x = false) (hn : n = 0) : BkEq H H' (.mp .i64 (.lits [])) (.mp .i64 (.setb S (.nat n))) := by
  subst hn
  exact mp_start hS
/-- a row of zeros as a list of numbers -/
theorem rep_row {H H' : List Bk} {ty ver m : Nat} {l : List Int} {n : IE} (hl : l = List.replicate m 0) (hn : n.den = (m : Int)) : BkEq H H' (.row ty 1 ver (.rep n [.int .i64 (.lit 0)])) (.row ty 1 ver (.map intC l)) := by
  subst hl
  have h1 : (RE.rep n [.int .i64 (.lit 0)]).den = List.replicate m [.int .i64 (.lit 0)] := by simp only [RE.den, hn, Int.toNat_natCast]
  have h2 : (RE.map intC (List.replicate m (0 : Int))).den = List.replicate m (intC 0) := List.map_replicate
  refine .rowe (by rw [h1, h2, List.length_replicate, List.length_replicate]) fun i e e' he he' => ?_
  rw [h1, List.getElem?_replicate] at he
  rw [h2, List.getElem?_replicate] at he'
  split at he
  · next q =>
    rw [if_pos q] at he'
    simp only [Option.some.injEq] at he he'
    subst he
    subst he'
    refine ⟨rfl, fun j d d' hd hd' => ?_⟩
    cases j with
    | zero =>
      simp only [intC, List.getElem?_cons_zero, Option.some.injEq] at hd hd'
      subst hd
      subst hd'
      exact .int rfl
    | succ j => simp at hd
  · cases he
/-- a number is stored into a row of numbers -/
theorem upd_row {H H' : List Bk} {ty ver k : Nat} {l l' : List Int} {i e : IE} {v : Int} (hk : i.den.toNat = k) (he : e.den = v) (hl : l.set k v = l') : BkEq H H' (.row ty 1 ver (.upd (.map intC l) i 0 [.int .i64 e])) (.row ty 1 ver (.map intC l')) := by
  subst hl
  have h1 : (RE.upd (.map intC l) i 0 [.int .i64 e]).den = (l.map intC).modify k (fun cs => over cs 0 [.int .i64 e]) := by simp only [RE.den, hk]
  have h2 : (RE.map intC (l.set k v)).den = (l.set k v).map intC := rfl
  refine .rowe (by rw [h1, h2]; simp) fun j a b ha hb => ?_
  rw [h1, List.getElem?_modify, List.getElem?_map] at ha
  rw [h2, List.getElem?_map, List.getElem?_set] at hb
  by_cases q : k = j
  · subst q
    cases hx : l[k]? with
    | none => rw [hx] at ha; simp at ha
    | some x =>
      have hlt := (List.getElem?_eq_some_iff.1 hx).1
      rw [hx] at ha
      simp only [Option.map_some, Option.map_eq_map, if_true, Option.some.injEq] at ha
      simp only [if_true, hlt, Option.map_some, Option.some.injEq] at hb
      subst ha
      subst hb
      refine ⟨rfl, fun j d d' hd hd' => ?_⟩
      cases j with
      | zero =>
        simp only [over, intC, List.take_zero, List.nil_append, List.cons_append, List.getElem?_cons_zero, Option.some.injEq] at hd hd'
        subst hd
        subst hd'
        exact .int he
      | succ j => simp [over, intC] at hd
  · rw [if_neg q] at hb
    simp only [q, if_false, Option.map_eq_map, Option.map_id_fun', id_eq] at ha
    rw [ha] at hb
    cases hb
    exact ⟨rfl, fun j d d' hd hd' => by rw [hd] at hd'; cases hd'; exact .refl _⟩
theorem mt_len {I : List IssuedD} {S : List SeenD} {g : Int} {t : Nat} {L : List Int} : ∀ i, (mtI I S g t L i).length ≤ L.length + i
  | 0 => Nat.le_refl _
  | i + 1 => by
    have := mt_len (I := I) (S := S) (g := g) (t := t) (L := L) i
    unfold mtI
    split
    · unfold insP
      split
      · omega
      · simp; omega
    · omega
end Go.Proofs.YtffmgfehaahlhaaDoor
namespace Go.Proofs.YtffmgfehaahlhaaDoor
open Go.RowKit

/-! PossibleKnown: another field is known, two groups are one. -/
def fld (s : SeenD) : Int := match s.fields.getLast? with | some l => IntKind.i64.wrap (l + 1) | none => 0
def knowS (v : Int) (s : SeenD) : SeenD := { s with nilf := false, fields := s.fields ++ [fld s], nilv := false, values := s.values ++ [v] }
def joinS (a b : Int) (s : SeenD) : SeenD := if s.group = b then { s with group := a } else s
theorem map_modify {α : Type} {c : α → List D} {S : List α} {k : Nat} {s s1 : α} {f : List D → List D} (hs : S[k]? = some s) (h : f (c s) = c s1) : (S.map c).modify k f = (S.set k s1).map c := by
  refine List.ext_getElem? fun i => ?_
  rw [List.getElem?_modify, List.getElem?_map, List.getElem?_map, List.getElem?_set]
  by_cases e : k = i
  · subst e
    have := (List.getElem?_eq_some_iff.1 hs).1
    rw [hs, if_pos rfl, if_pos this]
    simp [h]
  · simp [e]
theorem upd_map {α : Type} {c : α → List D} {S S' : List α} {k off : Nat} {i : IE} {m : List D} {s s1 : α} (hi : i.den.toNat = k) (hs : S[k]? = some s) (h : over (c s) off m = c s1) (hS : S' = S.set k s1) : (RE.upd (.map c S) i off m).den = (RE.map c S').den := by
  subst hS
  show (S.map c).modify i.den.toNat (fun cs => over cs off m) = (S.set k s1).map c
  rw [hi]
  exact map_modify hs h
theorem fitF_app (xs : List Int) : ∀ (fs vs fs2 vs2 : List Int), fs.length ≤ vs.length → fitF xs (fs ++ fs2) (vs ++ vs2) = true → fitF xs fs vs = true
  | [], _, _, _, _, _ => by simp [fitF]
  | f :: fs, [], _, _, h, _ => by simp at h
  | f :: fs, v :: vs, fs2, vs2, h, h2 => by
    simp only [List.cons_append, fitF, Bool.and_eq_true] at h2 ⊢
    exact ⟨h2.1, fitF_app xs fs vs fs2 vs2 (by simpa using h) h2.2⟩
theorem fits_know {x : IssuedD} {s : SeenD} {v : Int} (hl : s.fields.length = s.values.length) (h : fitsB x (knowS v s) = true) : fitsB x s = true := by
  unfold fitsB knowS at h
  unfold fitsB
  simp only [Bool.and_eq_true, decide_eq_true_eq] at h ⊢
  exact ⟨⟨h.1.1, by omega⟩, fitF_app _ _ _ _ _ (by omega) h.2⟩
theorem ris_app : ∀ (fs : List Int) (l f : Int), risB l fs = true → (match fs.getLast? with | some m => m < f | none => l < f) → f < 12 → risB l (fs ++ [f]) = true
  | [], l, f, _, h2, h3 => by
    simp at h2
    simp [risB, h2, h3]
  | g :: fs, l, f, h1, h2, h3 => by
    simp only [List.cons_append, risB, Bool.and_eq_true, decide_eq_true_eq] at h1 ⊢
    refine ⟨h1.1, ris_app fs g f h1.2 ?_ h3⟩
    cases fs with
    | nil => simpa using h2
    | cons a r =>
      rw [List.getLast?_cons_cons] at h2
      exact h2
theorem ris_last : ∀ (fs : List Int) (l m : Int), risB l fs = true → fs.getLast? = some m → l < m
  | [], l, m, _, h => by simp at h
  | g :: fs, l, m, h1, h2 => by
    simp only [risB, Bool.and_eq_true, decide_eq_true_eq] at h1
    cases fs with
    | nil => simp at h2; omega
    | cons a r =>
      rw [List.getLast?_cons_cons] at h2
      have := ris_last (a :: r) g m h1.2 h2
      omega
theorem seen_know {s : SeenD} {v : Int} (h : seenB s = true) (hf : ∀ l, s.fields.getLast? = some l → l < 11) (hv : valB v = true) : seenB (knowS v s) = true := by
  unfold seenB at h ⊢
  unfold knowS
  simp only [Bool.and_eq_true, decide_eq_true_eq] at h ⊢
  obtain ⟨⟨h1, h2, h3⟩, h4, h5⟩ := h
  refine ⟨⟨h1, h2, by simp [h3]⟩, ?_, ?_⟩
  · unfold fld
    cases hl : s.fields.getLast? with
    | none => exact ris_app _ _ _ h4 (by rw [hl]; simp) (by simp)
    | some l =>
      have q1 := hf l hl
      have q2 := ris_last _ _ _ h4 hl
      have q3 : IntKind.i64.wrap (l + 1) = l + 1 := w64 (by omega) (by omega)
      simp only [q3]
      exact ris_app _ _ _ h4 (by rw [hl]; simp only; omega) (by omega)
  · unfold valsB at h5 ⊢
    rw [List.all_append, h5]
    simp [hv]
theorem set_get {S : List SeenD} {k : Nat} {s t : SeenD} (hs : S[k]? = some s) (j : Nat) : (S.set k t)[j]? = if j = k then some t else S[j]? := by
  have hk := (List.getElem?_eq_some_iff.1 hs).1
  rw [List.getElem?_set]
  by_cases e : k = j
  · subst e; simp [hk]
  · rw [if_neg e, if_neg (Ne.symm e)]
theorem grp_know {S : List SeenD} {k : Nat} {s : SeenD} {v : Int} (hs : S[k]? = some s) (j : Nat) : groupS (S.set k (knowS v s)) j = groupS S j := by
  unfold groupS
  rw [set_get hs]
  by_cases e : j = k
  · subst e; rw [if_pos rfl, hs]; rfl
  · rw [if_neg e]
theorem opt_know {I : List IssuedD} {S : List SeenD} {k : Nat} {s : SeenD} {v : Int} (hs : S[k]? = some s) (hl : s.fields.length = s.values.length) {j c : Nat} (h : optO I (S.set k (knowS v s)) j c = true) : optO I S j c = true := by
  unfold optO at h ⊢
  rw [set_get hs] at h
  by_cases e : j = k
  · subst e
    rw [if_pos rfl] at h
    rw [hs]
    cases hx : I[c]? with
    | none => rw [hx] at h; cases h
    | some x =>
      rw [hx] at h
      exact fits_know hl h
  · rw [if_neg e] at h
    exact h
theorem Way.know {I : List IssuedD} {S : List SeenD} {k : Nat} {s : SeenD} {v : Int} (hs : S[k]? = some s) (hl : s.fields.length = s.values.length) {f : Nat → Nat} (h : Way I (S.set k (knowS v s)) f) : Way I S f := by
  have hlen : (S.set k (knowS v s)).length = S.length := List.length_set ..
  refine ⟨fun j hj => opt_know hs hl (h.opt j (by rw [hlen]; exact hj)), fun a b ha hb => h.inj a b (by rw [hlen]; exact ha) (by rw [hlen]; exact hb), fun a b ha hb hg => h.grp a b (by rw [hlen]; exact ha) (by rw [hlen]; exact hb) (by rw [grp_know hs, grp_know hs]; exact hg)⟩
theorem seen_of {I : List IssuedD} {S : List SeenD} (h : checkB I S = true) {s : SeenD} (hs : s ∈ S) : seenB s = true := by
  unfold checkB at h
  simp only [Bool.and_eq_true] at h
  exact List.all_eq_true.1 h.2.2 s hs
theorem occ_grp {S R : List SeenD} {g g' : Int} (hl : S.length = R.length) (hg : ∀ j, j < S.length → groupS S j = g → groupS R j = g') (h : occB g S = true) : occB g' R = true := by
  obtain ⟨j, hj, h2⟩ := occ_iff.1 h
  exact occ_iff.2 ⟨j, by omega, hg j hj h2⟩
theorem ok_know {I : List IssuedD} {S : List SeenD} {k : Nat} {s : SeenD} {v g : Int} (hs : S[k]? = some s) (hf : ∀ l, s.fields.getLast? = some l → l < 11) (h : okOf I S g = true) (hv : valB v = true) : okOf I (S.set k (knowS v s)) g = true := by
  have hm := List.mem_of_getElem? hs
  unfold okOf at h ⊢
  simp only [Bool.and_eq_true] at h ⊢
  have hsn := seen_of h.1 hm
  refine ⟨?_, occ_grp (List.length_set ..).symm (fun j _ hg => by rw [grp_know hs]; exact hg) h.2⟩
  have hc := h.1
  unfold checkB at hc ⊢
  simp only [Bool.and_eq_true, decide_eq_true_eq, List.length_set] at hc ⊢
  refine ⟨hc.1, hc.2.1, List.all_eq_true.2 fun t ht => ?_⟩
  obtain ⟨j, hj⟩ := List.getElem?_of_mem ht
  rw [set_get hs] at hj
  split at hj
  · cases hj
    exact seen_know hsn hf hv
  · exact List.all_eq_true.1 hc.2.2 t (List.mem_of_getElem? hj)
theorem of_know {I : List IssuedD} {S : List SeenD} {k : Nat} {s : SeenD} {v g : Int} (hs : S[k]? = some s) (h : okOf I S g = true) (h2 : okOf I (S.set k (knowS v s)) g = true) : withinB (ofA I (S.set k (knowS v s)) g) (ofA I S g) = true := by
  unfold ofA
  rw [h, h2, if_pos rfl, if_pos rfl, withinB_iff]
  unfold okOf at h h2
  simp only [Bool.and_eq_true] at h h2
  have hsn := seen_of h.1 (List.mem_of_getElem? hs)
  have hl : s.fields.length = s.values.length := by
    unfold seenB at hsn
    simp only [Bool.and_eq_true, decide_eq_true_eq] at hsn
    exact hsn.1.2.2
  intro p hp
  obtain ⟨f, h3, h4⟩ := (of_way h2.2 (iss_personX h2.1)).1 hp
  exact (of_way h.2 (iss_personX h.1)).2 ⟨f, h3.know hs hl, fun j hj hg => h4 j (by rw [List.length_set]; exact hj) (by rw [grp_know hs]; exact hg)⟩
theorem grp_join {S : List SeenD} {a b : Int} {j : Nat} (hj : j < S.length) : groupS (S.map (joinS a b)) j = if groupS S j = b then a else groupS S j := by
  unfold groupS
  rw [List.getElem?_map, List.getElem?_eq_getElem hj]
  show (joinS a b S[j]).group = _
  unfold joinS
  split <;> rfl
theorem opt_join (I : List IssuedD) (S : List SeenD) (a b : Int) (j c : Nat) : optO I (S.map (joinS a b)) j c = optO I S j c := by
  unfold optO
  rw [List.getElem?_map]
  cases I[c]? with
  | none => rfl
  | some x =>
    cases S[j]? with
    | none => rfl
    | some s =>
      show fitsB x (joinS a b s) = fitsB x s
      unfold joinS
      split <;> rfl
theorem Way.join {I : List IssuedD} {S : List SeenD} {a b : Int} {f : Nat → Nat} (h : Way I (S.map (joinS a b)) f) : Way I S f := by
  have hlen : (S.map (joinS a b)).length = S.length := List.length_map ..
  refine ⟨fun j hj => by rw [← opt_join I S a b]; exact h.opt j (by rw [hlen]; exact hj), fun x y hx hy => h.inj x y (by rw [hlen]; exact hx) (by rw [hlen]; exact hy), fun x y hx hy hg => h.grp x y (by rw [hlen]; exact hx) (by rw [hlen]; exact hy) (by rw [grp_join hx, grp_join hy, hg])⟩
theorem ok_join {I : List IssuedD} {S : List SeenD} {a b g : Int} (ha : 0 ≤ a) (h : okOf I S g = true) : okOf I (S.map (joinS a b)) (if g = b then a else g) = true := by
  unfold okOf at h ⊢
  simp only [Bool.and_eq_true] at h ⊢
  refine ⟨?_, occ_grp (List.length_map ..).symm (fun j hj hg => by rw [grp_join hj, hg]) h.2⟩
  have hc := h.1
  unfold checkB at hc ⊢
  simp only [Bool.and_eq_true, decide_eq_true_eq, List.length_map] at hc ⊢
  refine ⟨hc.1, hc.2.1, List.all_eq_true.2 fun t ht => ?_⟩
  obtain ⟨s, hs, rfl⟩ := List.mem_map.1 ht
  have h3 := List.all_eq_true.1 hc.2.2 s hs
  unfold joinS
  split
  · unfold seenB at h3 ⊢
    simp only [Bool.and_eq_true, decide_eq_true_eq] at h3 ⊢
    exact ⟨⟨ha, h3.1.2⟩, h3.2⟩
  · exact h3
theorem of_join {I : List IssuedD} {S : List SeenD} {a b g : Int} (ha : 0 ≤ a) (h : okOf I S g = true) : withinB (ofA I (S.map (joinS a b)) (if g = b then a else g)) (ofA I S g) = true := by
  have h2 := ok_join (b := b) ha h
  unfold ofA
  rw [h, h2, if_pos rfl, if_pos rfl, withinB_iff]
  unfold okOf at h h2
  simp only [Bool.and_eq_true] at h h2
  intro p hp
  obtain ⟨f, h3, h4⟩ := (of_way h2.2 (iss_personX h2.1)).1 hp
  exact (of_way h.2 (iss_personX h.1)).2 ⟨f, h3.join, fun j hj hg => h4 j (by rw [List.length_map]; exact hj) (by rw [grp_join hj, hg])⟩
end Go.Proofs.YtffmgfehaahlhaaDoor
