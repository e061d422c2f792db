import Derived.Test.YtaopkjgldokahaaDoorPart6
import Derived.Test.YtaopkjgldokahaaDoorTie
import Derived.Test.YtaopkjgldokahaaDoorCards
set_option linter.all false
set_option linter.unusedSimpArgs false
set_option linter.unusedVariables false
set_option linter.unnecessarySimpa false
namespace Go.Proofs.YtaopkjgldokahaaDoor
open Go.ChangeShapes Go.WideShapes Go.ChangeAt Go.RowKit
namespace accountRound
set_option maxRecDepth 100000 in
set_option maxHeartbeats 4000000 in
theorem main_pure (ni : Bool) (I : List IssuedD) (hi1 : ni = true → I = []) (hi2 : ∀ x ∈ I, x.fine) (hi3 : I.length ≤ maxLen) (nc : Bool) (C : List CoalD) (hc1 : nc = true → C = []) (hc2 : ∀ x ∈ C, x.fine) (hc3 : C.length ≤ maxLen) (ns : Bool) (S : List SightD) (hs1 : ns = true → S = []) (hs2 : ∀ x ∈ S, x.fine) (hs3 : S.length ≤ maxLen) (nl : Bool) (l : List IssuedD) (hl1 : nl = true → l = []) (hl2 : ∀ x ∈ l, x.fine) (hl3 : l.length ≤ maxLen) :
    Pure Tryd.prog 7 [.slm 3 (some (.var ni)) IssuedD.c I, .slm 1 (some (.var nc)) CoalD.c C, .slm 37 (some (.var ns)) SightD.c S, .slm 3 (some (.var nl)) IssuedD.c l] (boolD true) := by
  rw [maxLen_eq] at hi3 hc3 hs3 hl3
  have hN := sane_pure
  have hF := few_pure ni nc (some (.var ns)) I C S hi3 hs3
  have hFl := Few_pure l [] (some (.var nl)) none hl3 (by simp)
  have hfl : fewB l [] = true → l.length ≤ 12 ∧ ∀ x ∈ l, x.values.length < 9223372036854775807 := fun h => by
    unfold fewB at h
    simp only [Bool.and_eq_true, decide_eq_true_eq, List.all_eq_true] at h
    exact ⟨h.2.2.1, fun x hx => by have := h.1 x hx; omega⟩
  obtain ⟨fl, hfle⟩ : ∃ b, b = fewB l [] := ⟨_, rfl⟩
  rw [← hfle] at hFl hfl
  have hK := fun h : fewL I C S = true => kept_pure ni I nc C (some (.var ns)) S hi1 hc1 (fewL_big h).1 (by have := (fewL_big h).2.2.1; omega) (fun x hx => by have := (fewL_big h).2.2.2.1 x hx; omega) (fewL_big h).2.2.2.2.1 (by have := (fewL_big h).2.2.2.2.2; omega)
  have hT := fun (h : fewL I C S = true) (he : newE I C = 0) => kept_of h he
  have hA := fun (he : newE I C = 0) => (kept_form (ni := ni) (nc := nc) (S := S) he).1
  obtain ⟨L, hL⟩ : ∃ T, T = keepT I [] S := ⟨_, rfl⟩
  rw [← hL] at hT hA
  obtain ⟨fw, hfw⟩ : ∃ b, b = fewL I C S := ⟨_, rfl⟩
  rw [← hfw] at hF hK hT
  obtain ⟨b, hb⟩ : ∃ b, b = decide (newE I C = 0) := ⟨_, rfl⟩
  have hbe : b = true → newE I C = 0 := fun h => by rw [h] at hb; simpa using hb.symm
  rw [← hb] at hK
  obtain ⟨x, hx⟩ : ∃ x, x = keptA ni I nc C S := ⟨_, rfl⟩
  rw [← hx] at hK hA
  replace hT := fun (h1 : fw = true) (h2 : b = true) => hT h1 (hbe h2)
  replace hA := fun (h2 : b = true) => hA (hbe h2)
  have hfit : fw = true → b = true → x.fit := fun h1 h2 => by
    rw [hA h2]
    exact acct_fit (hT h1 h2).bi (by have := (hT h1 h2).il; omega) (by have := (hT h1 h2).cl; omega) (fun y hy => by have := (hT h1 h2).cx y hy; omega) (hT h1 h2).bt (by have := (hT h1 h2).tl; omega)
  have hIs := fun (h1 : fw = true) (h2 : b = true) (h3 : fl = true) => Issue_pure x l nl (hfit h1 h2) (by rw [hA h2]; exact hi1) (hfl h3).2 (by have := (hfl h3).1; omega)
  have hyb : fw = true → b = true → fl = true → (issueA x l).big := fun h1 h2 h3 => by rw [hA h2]; exact issue_fit (hT h1 h2) (hfl h3).1 (hfl h3).2
  have hSm := fun (h1 : fw = true) (h2 : b = true) (h3 : fl = true) => Same_pure (issueA x l) zeroA (hyb h1 h2 h3)
  obtain ⟨ea, hea⟩ : ∃ e, e = issueE x l := ⟨_, rfl⟩
  obtain ⟨y, hy⟩ : ∃ y, y = issueA x l := ⟨_, rfl⟩
  have hisb : fw = true → b = true → (ea = 0 → checkB (I ++ l) (viewsL L) = true ∧ y.issued = I ++ l ∧ y.sights = L ∧ y.sets = setsL (I ++ l) L C ∧ checkA y = true) ∧ (ea ≠ 0 → y = zeroA) := fun h1 h2 => by
    have h3 := issue_acct (ni := ni) (nc := nc) (l := l) (hT h1 h2).ok
    have h4 := issue_check (ni := ni) (nc := nc) (l := l) (hT h1 h2).ok
    rw [← hA h2, ← hea, ← hy] at h3 h4
    refine ⟨fun h => ?_, h3.2⟩
    have h5 := (h3.1 h).2
    exact ⟨(h3.1 h).1, by rw [h5], by rw [h5], by rw [h5], h4 h⟩
  rw [← hea, ← hy] at hIs
  rw [← hy] at hSm hyb
  have hSm' : fw = true → b = true → fl = true → ea ≠ 0 → Pure Tryd.prog 20 [.agg y.c, nilsA] (boolD true) := fun h1 h2 h3 h4 => by
    have h5 := hSm h1 h2 h3
    have h6 : sameB zeroA zeroA = true := by kernel_rfl
    rw [(congrArg (fun z => sameB z zeroA) ((hisb h1 h2).2 h4)).trans h6] at h5
    exact Pure.argsL (.cons (DLe.refl _) (.cons nilsA_le .nil)) h5
  have hCy : fw = true → b = true → fl = true → ea = 0 → Pure Tryd.prog 11 [.agg y.c] (i64 0) := fun h1 h2 h3 h4 => by
    have h5 := Check31_pure y (hyb h1 h2 h3) (by rw [((hisb h1 h2).1 h4).2.2.1]; have := (hT h1 h2).tl; omega)
    rw [((hisb h1 h2).1 h4).2.2.2.2, if_pos rfl] at h5
    exact h5
  have hSs := fun (h1 : fw = true) (h2 : b = true) (na nb : Option BE) => SameSets_pure x.sets y.sets na nb (hfit h1 h2).big.sets (hfit h1 h2).big.gl
  have hx6 : b = true → x.sights = L := fun h => by rw [hA h]; rfl
  have hy2 : fw = true → b = true → ea = 0 → y.issued.length = I.length + l.length := fun h1 h2 h3 => by rw [((hisb h1 h2).1 h3).2.1]; simp
  have hse : fw = true → b = true → ea = 0 → (∀ s ∈ L, ∀ y ∈ l, s.seen.round ≠ y.round) → setsEqB x.sets y.sets = true := fun h1 h2 h3 h4 => by
    rw [((hisb h1 h2).1 h3).2.2.2.1, hA h2, sets_round (hT h1 h2).ok.2.1 ((hisb h1 h2).1 h3).1 h4]
    exact setsEq_refl _
  have htl : fw = true → b = true → L.length ≤ 16 := fun h1 h2 => (hT h1 h2).tl
  have hil : fw = true → I.length ≤ 8 := fun h1 => (fewL_big (hfw.symm.trans h1)).2.1
  obtain ⟨se, hsee⟩ : ∃ b, b = setsEqB x.sets y.sets := ⟨_, rfl⟩
  rw [← hsee] at hSs hse
  clear hfw hb hbe hx hT hA hfit hyb hSm hea hy hisb hsee hi1 hi2 hi3 hc1 hc2 hc3 hs1 hs2 hs3 hl1 hl2 hL hfle
  obtain ⟨x1, x2, x3, x4, x5, x6, x7, x8⟩ := x
  obtain ⟨y1, y2, y3, y4, y5, y6, y7, y8⟩ := y
  simp only at hx6 hy2 hSs
  obtain ⟨n, hn⟩ : ∃ n : Nat, n = L.length := ⟨_, rfl⟩
  obtain ⟨m, hmm⟩ : ∃ n : Nat, n = l.length := ⟨_, rfl⟩
  refine Pure.intro (want := [boolD true]) T_ok follows Tryd.func7 rfl (by kernel_rfl) (rs := [.tmp 8]) rfl (by kernel_rfl) ?_
  generalize hP : Tryd.prog = P at *
  have hT : T.ok P := hP ▸ T_ok
  have hm : P.follows .mixedOrders = true := hP ▸ follows
  unfold Tryd.f7
  dsimp only
  cbv
  first
    | refine CallP.pure _ (hN) rfl ?_
    | refine PureP.mk _ (hN) rfl ?_
  cbv
  refine SplitP.mk (fun hs => ?_) (fun hs => ?_)
  · cases (show (!true) = true from hs)
  clear hs
  first
    | refine CallP.pure _ (hF) rfl ?_
    | refine PureP.mk _ (hF) rfl ?_
  cbv
  refine SplitP.mk (fun hs => ?_) (fun hs => ?_)
  · exact .mk (.cons (.eq (.bool rfl)) .nil) rfl
  have h10 : fw = true := by simpa using (show (!fw) = false from hs)
  clear hs
  refine SplitP.mk (fun hs => ?_) (fun hs => ?_)
  · exact .mk (.cons (.eq (.bool rfl)) .nil) rfl
  clear hs
  refine CallP.pure _ (Pure.args (.cons (.refl _) (.cons (.nil0 rfl) .nil)) hFl) rfl ?_
  cbv
  refine SplitP.mk (fun hs => ?_) (fun hs => ?_)
  · exact .mk (.cons (.eq (.bool rfl)) .nil) rfl
  have h12 : fl = true := by simpa using (show (!fl) = false from hs)
  clear hs
  first
    | refine CallP.pure _ ((hK h10)) rfl ?_
    | refine PureP.mk _ ((hK h10)) rfl ?_
  cbv
  refine SplitP.mk (fun hs => ?_) (fun hs => ?_)
  · exact .mk (.cons (.eq (.bool rfl)) .nil) rfl
  have h11 : b = true := by simpa using (show (!b) = false from hs)
  clear hs hN hF hK hFl
  obtain rfl := hx6 h11
  first
    | refine CallP.pure _ ((hIs h10 h11 h12)) rfl ?_
    | refine PureP.mk _ ((hIs h10 h11 h12)) rfl ?_
  cbv
  refine SplitP.mk (fun hs => ?_) (fun hs => ?_) <;> simp only [BE.neq_t, BE.neq_f, IE.var_d, IE.lit_d] at hs
  · first
      | refine CallP.pure _ ((hSm' h10 h11 h12 hs)) rfl ?_
      | refine PureP.mk _ ((hSm' h10 h11 h12 hs)) rfl ?_
    cbv
    exact .mk (.cons (.eq (.bool rfl)) .nil) rfl
  have hy2' := hy2 h10 h11 hs
  have hse' := hse h10 h11 hs
  have hCy' := hCy h10 h11 h12 hs
  have hSs' := hSs h10 h11
  have htl' := htl h10 h11
  have hil' := hil h10
  have hfl' := (hfl h12).1
  clear hx6 hIs hSm' hCy hSs hy2 hse htl hfl hil
  refine CodeP.keep [0, 3, 9, 11, 13] ?_
  refine CodeP.loopc hT hm (X := Nat) (fun k => [(13, .int .i64 (.nat k))]) (fun k => k ≤ n ∧ ∀ i s, i < k → x6[i]? = some s → ∀ y ∈ l, s.seen.round ≠ y.round) (fun k => n - k) 0 ⟨Nat.zero_le _, fun i s h => by omega⟩ (Nat.zero_le _) ?_ rfl ?_
  · (cbv; (repeat' (first | exact SnD.refl _ | exact trivial | exact SnD.nat0 | refine And.intro ?_ ?_)))
  intro k ⟨hk, hq⟩
  replace hk : k ≤ n := hk
  replace hq : ∀ i s, i < k → x6[i]? = some s → ∀ y ∈ l, s.seen.round ≠ y.round := hq
  cbv
  refine SplitP.mk (fun hs2 => ?_) (fun hs2 => ?_)
  · have hkn : k < x6.length := by
      have h5 : decide ((k : Int) < (x6.length : Int)) = true := hs2
      have := of_decide_eq_true h5
      omega
    clear hs2
    refine CodeP.loopc hT hm (X := Nat) (fun j => [(14, .int .i64 (.nat j))]) (fun j => j ≤ m ∧ ∀ s, x6[k]? = some s → ∀ i y, i < j → l[i]? = some y → s.seen.round ≠ y.round) (fun j => m - j) 0 ⟨Nat.zero_le _, fun s _ i y h => by omega⟩ (Nat.zero_le _) ?_ rfl ?_
    · (cbv; (repeat' (first | exact SnD.refl _ | exact trivial | exact SnD.nat0 | refine And.intro ?_ ?_)))
    intro j ⟨hj, hq2⟩
    replace hj : j ≤ m := hj
    replace hq2 : ∀ s, x6[k]? = some s → ∀ i y, i < j → l[i]? = some y → s.seen.round ≠ y.round := hq2
    cbv
    refine SplitP.mk (fun hs3 => ?_) (fun hs3 => ?_)
    · have hjl : j < l.length := by
        have h5 : decide ((j : Int) < (l.length : Int)) = true := hs3
        have := of_decide_eq_true h5
        omega
      clear hs3
      refine ElemP.mk (by show (0 : Int) ≤ (k : Int) ∧ (k : Int) < (x6.length : Int); omega) (fun s hs4 => ?_)
      replace hs4 : x6[k]? = some s := hs4
      have hq3 := hq2 s hs4
      obtain ⟨v, tk, ⟨s1, s2, s3, s4, s5, s6⟩⟩ := s
      simp only at hq3
      cbv
      refine ElemP.mk (by show (0 : Int) ≤ (j : Int) ∧ (j : Int) < (l.length : Int); omega) (fun y hy => ?_)
      replace hy : l[j]? = some y := hy
      have hq4 : ∀ h : s2 ≠ y.round, ∀ i z, i < j + 1 → l[i]? = some z → s2 ≠ z.round := fun h i z hi hz => by
        rcases Nat.lt_or_ge i j with q | q
        · exact hq3 i z q hz
        · have : i = j := by omega
          subst this
          rw [hy] at hz
          cases hz
          exact h
      obtain ⟨y1', y2', y3', y4'⟩ := y
      simp only at hq4
      cbv
      refine SplitP.mk (fun hs5 => ?_) (fun hs5 => ?_) <;> simp only [BE.eql_t, BE.eql_f, IE.var_d] at hs5
      · exact .mk (.cons (.eq (.bool rfl)) .nil) rfl
      · refine BackP.intro (j + 1) ⟨by show j + 1 ≤ m; omega, fun s hs6 => ?_⟩ (by show m - (j + 1) < m - j; omega) ⟨?_, HEnt.refl _, rfl⟩
        · rw [hs4] at hs6
          cases hs6
          exact hq4 hs5
        · (cbv; (repeat' (first | exact SnD.refl _ | exact trivial | exact SnD.nat0 | refine And.intro ?_ ?_)))
          exact .inc (by omega)
    · have hjl : l.length ≤ j := by
        have h5 : decide ((j : Int) < (l.length : Int)) = false := hs3
        have := of_decide_eq_false h5
        omega
      refine BackP.intro (k + 1) ⟨by show k + 1 ≤ n; omega, fun i s hi hs6 y hy => ?_⟩ (by show n - (k + 1) < n - k; omega) ⟨?_, HEnt.refl _, rfl⟩
      · rcases Nat.lt_or_ge i k with q | q
        · exact hq i s q hs6 y hy
        · have : i = k := by omega
          subst this
          obtain ⟨z, hz⟩ := List.getElem?_of_mem hy
          exact hq2 s hs6 z y (by have := (List.getElem?_eq_some_iff.1 hz).1; omega) hz
      · (cbv; (repeat' (first | exact SnD.refl _ | exact trivial | exact SnD.nat0 | refine And.intro ?_ ?_)))
        exact .inc (by omega)
  · have hkn : k = n := by
      have h5 : decide ((k : Int) < (x6.length : Int)) = false := hs2
      have := of_decide_eq_false h5
      omega
    have hse2 := hse' fun s hs7 y hy => by
      obtain ⟨i, hi⟩ := List.getElem?_of_mem hs7
      exact hq i s (by have := (List.getElem?_eq_some_iff.1 hi).1; omega) hi y hy
    first
      | refine CallP.pure _ ((hSs' _ _)) rfl ?_
      | refine PureP.mk _ ((hSs' _ _)) rfl ?_
    cbv
    refine SplitP.mk (fun hs6 => ?_) (fun hs6 => ?_)
    rotate_left
    · exfalso
      have h6 : se = false := hs6
      rw [hse2] at h6
      cases h6
    refine SplitP.mk (fun hs8 => ?_) (fun hs8 => ?_)
    rotate_left
    · exfalso
      have h6 : ((y2.length : Int) == binDen .add .i64 (I.length : Int) (l.length : Int)) = false := hs8
      rw [add64 (by omega) (by omega), hy2'] at h6
      simp at h6
    first
      | refine CallP.pure _ (hCy') rfl ?_
      | refine PureP.mk _ (hCy') rfl ?_
    cbv
    exact .mk (.cons (.eq (.bool rfl)) .nil) rfl
theorem own : ownKnob Tryd.prog.godebug = none := by kernel_rfl
theorem laidOut : laidOutB Tryd.prog = true := by kernel_rfl
set_option maxRecDepth 100000 in
theorem lifted (os : Os) (started : os.Started) (H : Type) (enc : TypeId × Value → H) :
    ReturnsInHanded {} Tryd.checked os 7 .any (fun w args => (Rows.accountRoundSpec.pre enc Tryd.prog Tryd.f7 [] false w args ∧ laidMetH Tryd.prog laidR w) ∧ sizedMet enc Tryd.prog Tryd.f7 (OpenSpec.ofChange Rows.accountRoundSpec) false w args) (Rows.accountRoundSpec.post enc Tryd.prog Tryd.f7 false true false false) := by
  refine returnsInHanded_of_change_and (C := Tryd.checked) (X := fun w _ => laidMetH Tryd.prog laidR w) (fun _ _ _ hh h => h.of_heap hh) own started (by kernel_rfl) Tryd.func7
    (ChangeSpec.witness_shaped (enc := enc) (C := Tryd.checked) (os := os) (X := fun w _ => laidMetH Tryd.prog laidR w) false (World.doorLaid Tryd.prog 400 os) #[.slice none 0 0, .slice none 0 0, .slice none 0 0, .slice none 0 0] 8 rfl (World.shaped_of_RefB (by kernel_rfl) (by kernel_rfl)) (by kernel_rfl) (by kernel_rfl) (by kernel_rfl) (door_met os _)) ?_
  intro W base args ds gs before hval0 hW _ hSz hL _
  have hval : ∀ (j : Nat) t v, Tryd.f7.params[j]? = some t → args[j]? = some v → Value.okWide Tryd.prog W .any base t v := hval0
  have hW' := hW
  obtain ⟨p, q, hA0, hV, rfl, hfz, hnd⟩ := hW
  have hA : DataW.TrodAll enc Tryd.prog W 0 (fun _ => true) true Tryd.f7.params.toList args.toList ds p := hA0
  rw [Tryd.params7] at hA hval
  obtain ⟨v0, vs0, d0, ds0, p0, q0, hargs, rfl, rfl, h0, r0⟩ := trodAll_cons hA
  obtain ⟨v1, vs1, d1, ds1, p1, q1, rfl, rfl, rfl, h1, r1⟩ := trodAll_cons r0
  obtain ⟨v2, vs2, d2, ds2, p2, q2, rfl, rfl, rfl, h2, r2⟩ := trodAll_cons r1
  obtain ⟨v3, vs3, d3, ds3, p3, q3, rfl, rfl, rfl, h3, r3⟩ := trodAll_cons r2
  obtain ⟨rfl, rfl, rfl⟩ := trodAll_nil r3
  obtain rfl : args = #[v0, v1, v2, v3] := by cases args; simp_all
  obtain ⟨rfl, rfl⟩ := trodVars_none hV
  have k0 := h0
  have lt0 : ∀ x ∈ p0, x.block < W.heap.size := by obtain ⟨m, hm⟩ := k0; exact DataW.trod_lt m _ _ _ hm
  obtain ⟨⟨nb0, l0⟩, ⟨ln0, lk0, ll0⟩, rp0⟩ := open_sl (e := 47) (by kernel_rfl) opd_issueds (hval 0 22 v0 rfl rfl) h0
  have k1 := h1
  have lt1 : ∀ x ∈ p1, x.block < W.heap.size := by obtain ⟨m, hm⟩ := k1; exact DataW.trod_lt m _ _ _ hm
  obtain ⟨⟨nb1, l1⟩, ⟨ln1, lk1, ll1⟩, rp1⟩ := open_sl (e := 37) (by kernel_rfl) opd_coals (hval 1 23 v1 rfl rfl) h1
  have k2 := h2
  have lt2 : ∀ x ∈ p2, x.block < W.heap.size := by obtain ⟨m, hm⟩ := k2; exact DataW.trod_lt m _ _ _ hm
  obtain ⟨⟨nb2, l2⟩, ⟨ln2, lk2, ll2⟩, rp2⟩ := open_sl (e := 53) (by kernel_rfl) opd_sights (hval 2 24 v2 rfl rfl) h2
  have k3 := h3
  have lt3 : ∀ x ∈ p3, x.block < W.heap.size := by obtain ⟨m, hm⟩ := k3; exact DataW.trod_lt m _ _ _ hm
  obtain ⟨⟨nb3, l3⟩, ⟨ln3, lk3, ll3⟩, rp3⟩ := open_sl (e := 47) (by kernel_rfl) opd_issueds (hval 3 22 v3 rfl rfl) h3
  clear hA0 hval0
  refine (Pure.law (main_pure nb0 l0 ln0 lk0 ll0 nb1 l1 ln1 lk1 ll1 nb2 l2 ln2 lk2 ll2 nb3 l3 ln3 lk3 ll3) (of_laid hL) (lrep_cons rp0 (lrep_cons rp1 (lrep_cons rp2 (lrep_cons rp3 LRep.nil))))).mono fun e W' ⟨he, bel⟩ => ?_
  subst he
  exact ⟨_, rfl, _, _, _, [], _, [], hW', trodAll_mk1 (shut_bool Tryd.underlying4 _), (trodAll_cons_mk (Below.trod laidOut (by kernel_rfl) (of_decide_eq_true (by kernel_rfl)) k0 bel lt0) (trodAll_cons_mk (Below.trod laidOut (by kernel_rfl) (of_decide_eq_true (by kernel_rfl)) k1 bel lt1) (trodAll_cons_mk (Below.trod laidOut (by kernel_rfl) (of_decide_eq_true (by kernel_rfl)) k2 bel lt2) (trodAll_cons_mk (Below.trod laidOut (by kernel_rfl) (of_decide_eq_true (by kernel_rfl)) k3 bel lt3) trodAll_mk0)))), rfl, bel.frame _, fun h => by cases h⟩

theorem over : Rows.accountRoundRow.holds Tryd.pinned (OpenSpec.ofChange Rows.accountRoundSpec) :=
  OpenClaim.holds_of_wide 7 Tryd.f7 rfl rfl rfl rfl rfl rfl rfl ⟨rfl, rfl, rfl, rfl, rfl⟩ rfl rfl rfl rfl rfl (by kernel_rfl) Tryd.func7 (by kernel_rfl)
    (of_decide_eq_true (by kernel_rfl)) (by unfold Func.isWrapper; first | (rw [if_pos (by decide +kernel)]; kernel_rfl) | (rw [if_neg (by decide +kernel)]; exact ⟨rfl, rfl⟩))
    (fun os started H enc _ => lifted os started H enc)
theorem card : Rows.AccountRoundCardSaid :=
  Claim7.holds_tied_plain_at .later [] [.data] true (true, "b72b32de743d826df5b2873f23d602c53803940e87d116771b5e76fb27b1ffe5") false
    over (fun _ h => by cases h) (by kernel_rfl) (fun _ h => by cases h) accountRound_row_tie rfl ⟨rfl, rfl⟩ (by kernel_rfl) rfl
    (fun f fn hf hfn => by
      obtain rfl : f = 7 := Option.some.inj ((show Tryd.prog.funcNamed "testamur/testamurlaw31.AccountRound" = some 7 by kernel_rfl).symm.trans hf) |>.symm
      obtain rfl : fn = Tryd.f7 := (Option.some.inj (Tryd.func7.symm.trans hfn)).symm
      exact ⟨by kernel_rfl, fun j t ht => by
        rw [Tryd.params7] at ht
        have hm : t ∈ [22, 23, 24, 22] := by simpa using Array.mem_of_getElem? ht
        have hall : ([22, 23, 24, 22].all fun u => !Tryd.prog.wantsStandIn u) = true := by kernel_rfl
        exact (show Tryd.prog.wantsStandIn t = false by simpa using List.all_eq_true.1 hall t hm)⟩)
    (by kernel_rfl)
end accountRound
theorem accountRound_holds : Rows.AccountRoundCardSaid := accountRound.card
#print axioms accountRound_holds

end Go.Proofs.YtaopkjgldokahaaDoor
