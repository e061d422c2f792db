import Derived.Test.YtffmgfehaahlhaaDoorPart5
import Derived.Test.YtffmgfehaahlhaaDoorTie
import Derived.Test.YtffmgfehaahlhaaDoorCards
set_option linter.all false
set_option linter.unusedSimpArgs false
set_option linter.unusedVariables false
set_option linter.unnecessarySimpa false
namespace Go.Proofs.YtffmgfehaahlhaaDoor
open Go.ChangeShapes Go.WideShapes Go.ChangeAt Go.RowKit
namespace possibleWitness
set_option maxRecDepth 100000 in
set_option maxHeartbeats 4000000 in
theorem main_pure (ni : Bool) (I : List IssuedD) (hi1 : ni = true → I = []) (hi2 : ∀ x ∈ I, x.fine) (hi3 : I.length ≤ maxLen) (ns : Bool) (S : List SeenD) (hs1 : ns = true → S = []) (hs2 : ∀ x ∈ S, x.fine) (hs3 : S.length ≤ maxLen) (g : Int) (hg : InR .i64 g) : Pure Tryd.prog 6 [.slm 3 (some (.var ni)) IssuedD.c I, .slm 4 (some (.var ns)) SeenD.c S, i64 g] (boolD true) := by
  have hS := sane_pure
  rw [maxLen_eq] at hi3 hs3
  have hF := Few_pure I S (some (.var ni)) (some (.var ns)) hi3 hs3
  obtain ⟨fw, hfw⟩ : ∃ b, b = fewB I S := ⟨_, rfl⟩
  rw [← hfw] at hF
  have hO := fun (h : fw = true) (g : Int) => Of_pure I S g (some (.var ni)) (some (.var ns)) (few_big (hfw.symm.trans h)).1 (few_big (hfw.symm.trans h)).2.1
  have hSl := fun h : fw = true => (few_big (hfw.symm.trans h)).2.2.2
  have hA := fun h : fw = true => Any_pure I S (some (.var ni)) (some (.var ns)) (few_big (hfw.symm.trans h)).1 (few_big (hfw.symm.trans h)).2.1
  have q0 : okOf I S g = false → (ofA I S g).length = 0 := fun h => by unfold ofA; rw [h]; rfl
  have q1 : okOf I S g = true → (if checkB I S then (0 : Int) else 300) = 0 ∧ (anyA I S).isSome = decide (0 < (ofA I S g).length) := fun h => by
    have h2 := h
    unfold okOf at h
    simp only [Bool.and_eq_true] at h
    refine ⟨by rw [h.1]; rfl, ?_⟩
    unfold anyA ofA
    rw [h.1, h2, if_pos rfl, if_pos rfl, of_any h.2 fun x hx => (check_issued h.1 hx).1]
  have q2 : okOf I S g = true → ∀ s ∈ S, okOf I S s.group = true ∧ decide (0 < (ofA I S s.group).length) = (anyA I S).isSome := fun h s hs => by
    unfold okOf at h
    simp only [Bool.and_eq_true] at h
    have ho : occB s.group S = true := List.any_eq_true.2 ⟨s, hs, by simp⟩
    have hk : okOf I S s.group = true := by unfold okOf; rw [h.1, ho]; rfl
    refine ⟨hk, ?_⟩
    unfold anyA ofA
    rw [h.1, hk, if_pos rfl, if_pos rfl, of_any ho fun x hx => (check_issued h.1 hx).1]
  obtain ⟨oL, hoL⟩ : ∃ l : Int → List Int, l = ofA I S := ⟨_, rfl⟩
  obtain ⟨ok, hok⟩ : ∃ l : Int → Bool, l = okOf I S := ⟨_, rfl⟩
  obtain ⟨aA, haA⟩ : ∃ l, l = (anyA I S).getD [] := ⟨_, rfl⟩
  obtain ⟨aS, haS⟩ : ∃ l, l = (anyA I S).isSome := ⟨_, rfl⟩
  obtain ⟨oe, hoe⟩ : ∃ x : Int → Int, x = fun g => if ok g then 0 else 300 := ⟨_, rfl⟩
  obtain ⟨ae, hae⟩ : ∃ x : Int, x = if checkB I S then 0 else 300 := ⟨_, rfl⟩
  obtain ⟨b2, hb2⟩ : ∃ x : Int → Bool, x = fun g => decide ((oL g).length = 0) := ⟨_, rfl⟩
  have hO2 : fw = true → ∀ g, Pure Tryd.prog 18 [.slm 3 (some (.var ni)) IssuedD.c I, .slm 4 (some (.var ns)) SeenD.c S, i64 g] (.tup [.slm 1 (some (.var (b2 g))) intC (oL g), i64 (oe g)]) := fun h g => by
    rw [hb2, hoe, hok, hoL]
    exact hO h g
  clear hO
  rw [← haA, ← haS, ← hae] at hA
  obtain ⟨b3, hb3⟩ : ∃ x, x = decide (aA.length = 0) := ⟨_, rfl⟩
  rw [← hb3] at hA
  rw [← hok, ← hoL] at q0 q1 q2
  rw [← hae, ← haS] at q1
  rw [← haS] at q2
  have r0 : oe g ≠ 0 → (oL g).length = 0 := fun h => q0 (by
    cases hk : ok g with
    | false => rfl
    | true => exact absurd (by rw [hoe]; simp only [hk, if_true]) h)
  have r1 : oe g = 0 → ok g = true := fun h => by
    cases hk : ok g with
    | true => rfl
    | false =>
      rw [hoe] at h
      simp only [hk, Bool.false_eq_true, if_false] at h
      omega
  have r2 : oe g = 0 → ∀ s ∈ S, oe s.group = 0 ∧ decide (0 < (oL s.group).length) = aS := fun h s hs => by
    obtain ⟨t1, t2⟩ := q2 (r1 h) s hs
    refine ⟨?_, t2⟩
    rw [hoe]
    simp only [t1, if_true]
  have r3 : oe g = 0 → ae = 0 ∧ aS = decide (0 < (oL g).length) := fun h => q1 (r1 h)
  clear q0 q1 q2 r1 hoe hae hb2 hb3 hoL hok haA haS hfw hi1 hi2 hi3 hs1 hs2 hs3 hg
  obtain ⟨nS, hnS⟩ : ∃ n : Nat, n = S.length := ⟨_, rfl⟩
  refine Pure.intro (want := [boolD true]) T_ok follows Tryd.func6 rfl (by kernel_rfl) (rs := [.tmp 6]) rfl (by kernel_rfl) ?_
  generalize hP : Tryd.prog = P at *
  have hT : T.ok P := hP ▸ T_ok
  have hm : P.follows .mixedOrders = true := hP ▸ follows
  unfold Tryd.f6
  dsimp only
  cbv
  refine CallP.pure _ hS rfl ?_
  cbv
  refine SplitP.mk (fun hs => ?_) (fun hs => ?_)
  · cases (show (!true) = true from hs)
  clear hs
  refine CallP.pure _ hF rfl ?_
  cbv
  refine SplitP.mk (fun hs => ?_) (fun hs => ?_)
  · exact .mk (.cons (.eq (.bool rfl)) .nil) rfl
  have h10 : fw = true := by simpa using (show (!fw) = false from hs)
  refine CallP.pure _ (hO2 h10 g) rfl ?_
  cbv
  refine CallP.pure _ (hA h10) rfl ?_
  cbv
  refine SplitP.mk (fun hs => ?_) (fun hs => ?_)
  · replace hs : (oe g != 0) = true := hs
    have h3 := r0 (by simpa using hs)
    refine .mk (.cons (.eq (.bool ?_)) .nil) rfl
    show (((oL g).length : Int) == 0) = true
    rw [h3]
    rfl
  replace hs : oe g = 0 := by
    have h3 : (oe g != 0) = false := hs
    simpa using h3
  obtain ⟨t1, t2⟩ := r3 hs
  have t3 := r2 hs
  refine SplitP.mk (fun h => (by have h3 : (ae != 0) = true := h; rw [t1] at h3; cases h3)) (fun _ => ?_)
  refine SplitP.mk (fun h => ?_) (fun h => ?_)
  · exfalso
    have h3 : (!(aS == decide (((oL g).length : Int) > 0))) = true := h
    rw [t2] at h3
    have : decide (((oL g).length : Int) > 0) = decide (0 < (oL g).length) := by rw [Bool.eq_iff_iff]; simp
    rw [this] at h3
    simp at h3
  clear h
  clear r0 r2 r3 t1 t2
  refine CodeP.loopc hT hm (X := Nat) (fun k => [(52, .int .i64 (.nat k))]) (fun k => k ≤ nS) (fun k => nS - k) 0 (Nat.zero_le _) (Nat.zero_le _) ?_ rfl ?_
  · (cbv; (repeat' (first | exact SnD.refl _ | exact trivial | exact SnD.nat0 | refine And.intro ?_ ?_)))
  intro k hk
  cbv
  refine SplitP.mk (fun hs => ?_) (fun hs => ?_)
  rotate_left
  · exact .mk (.cons (.eq (.bool rfl)) .nil) rfl
  have hkn : k < S.length := by
    have h5 : decide ((k : Int) < (S.length : Int)) = true := hs
    have := of_decide_eq_true h5
    omega
  clear hs
  refine ElemP.mk (by show (0 : Int) ≤ (k : Int) ∧ (k : Int) < (S.length : Int); omega) (fun s hs => ?_)
  replace hs : S[k]? = some s := hs
  obtain ⟨t4, t5⟩ := t3 s (List.mem_of_getElem? hs)
  have hQ := hO2 h10 s.group
  have hS5 := hSl h10
  obtain ⟨oeg, hoeg⟩ : ∃ x, x = oe s.group := ⟨_, rfl⟩
  obtain ⟨oLg, hoLg⟩ : ∃ x, x = oL s.group := ⟨_, rfl⟩
  obtain ⟨b2g, hb2g⟩ : ∃ x, x = b2 s.group := ⟨_, rfl⟩
  rw [← hoeg] at t4 hQ
  rw [← hoLg] at t5 hQ
  rw [← hb2g] at hQ
  cbv
  refine CallP.pure _ hQ rfl ?_
  cbv
  refine SplitP.mk (fun h => (by have h3 : (oeg != 0) = true := h; rw [t4] at h3; cases h3)) (fun _ => ?_)
  refine SplitP.mk (fun h => ?_) (fun h => ?_)
  · exfalso
    have h3 : (!(decide ((oLg.length : Int) > 0) == aS)) = true := h
    have : decide ((oLg.length : Int) > 0) = decide (0 < oLg.length) := by rw [Bool.eq_iff_iff]; simp
    rw [this, t5] at h3
    simp at h3
  refine BackP.intro (k + 1) (by omega) (by show nS - (k + 1) < nS - k; omega) ⟨?_, trivial, rfl⟩
  (cbv; (repeat' (first | exact SnD.refl _ | exact trivial | exact SnD.nat0 | refine And.intro ?_ ?_)))
  exact .inc (by omega)
theorem own : ownKnob Tryd.prog.godebug = none := by kernel_rfl
theorem laidOut : laidOutB Tryd.prog = true := by kernel_rfl
set_option maxRecDepth 100000 in
theorem lifted (os : Os) (started : os.Started) (H : Type) (enc : TypeId × Value → H) :
    ReturnsInHanded {} Tryd.checked os 6 .any (fun w args => (Rows.possibleWitnessSpec.pre enc Tryd.prog Tryd.f6 [] false w args ∧ laidMetH Tryd.prog laidR w) ∧ sizedMet enc Tryd.prog Tryd.f6 (OpenSpec.ofChange Rows.possibleWitnessSpec) false w args) (Rows.possibleWitnessSpec.post enc Tryd.prog Tryd.f6 false true false false) := by
  refine returnsInHanded_of_change_and (C := Tryd.checked) (X := fun w _ => laidMetH Tryd.prog laidR w) (fun _ _ _ hh h => h.of_heap hh) own started (by kernel_rfl) Tryd.func6
    (ChangeSpec.witness_shaped (enc := enc) (C := Tryd.checked) (os := os) (X := fun w _ => laidMetH Tryd.prog laidR w) false (World.doorLaid Tryd.prog 400 os) #[.slice none 0 0, .slice none 0 0, .int .i64 0] 8 rfl (World.shaped_of_RefB (by kernel_rfl) (by kernel_rfl)) (by kernel_rfl) (by kernel_rfl) (by kernel_rfl) (door_met os _)) ?_
  intro W base args ds gs before hval0 hW _ _ hL _
  have hval : ∀ (j : Nat) t v, Tryd.f6.params[j]? = some t → args[j]? = some v → Value.okWide Tryd.prog W .any base t v := hval0
  have hW' := hW
  obtain ⟨p, q, hA0, hV, rfl, hfz, hnd⟩ := hW
  have hA : DataW.TrodAll enc Tryd.prog W 0 (fun _ => true) true Tryd.f6.params.toList args.toList ds p := hA0
  rw [Tryd.params6] at hA hval
  obtain ⟨v0, vs0, d0, ds0, p0, q0, hargs, rfl, rfl, h0, r0⟩ := trodAll_cons hA
  obtain ⟨v1, vs1, d1, ds1, p1, q1, rfl, rfl, rfl, h1, r1⟩ := trodAll_cons r0
  obtain ⟨v2, vs2, d2, ds2, p2, q2, rfl, rfl, rfl, h2, r2⟩ := trodAll_cons r1
  obtain ⟨rfl, rfl, rfl⟩ := trodAll_nil r2
  obtain rfl : args = #[v0, v1, v2] := by cases args; simp_all
  obtain ⟨rfl, rfl⟩ := trodVars_none hV
  have k0 := h0
  have lt0 : ∀ x ∈ p0, x.block < W.heap.size := by obtain ⟨m, hm⟩ := k0; exact DataW.trod_lt m _ _ _ hm
  obtain ⟨⟨nb0, l0⟩, ⟨ln0, lk0, ll0⟩, rp0⟩ := open_sl (e := 26) (by kernel_rfl) opd_issueds (hval 0 22 v0 rfl rfl) h0
  have k1 := h1
  have lt1 : ∀ x ∈ p1, x.block < W.heap.size := by obtain ⟨m, hm⟩ := k1; exact DataW.trod_lt m _ _ _ hm
  obtain ⟨⟨nb1, l1⟩, ⟨ln1, lk1, ll1⟩, rp1⟩ := open_sl (e := 28) (by kernel_rfl) opd_seens (hval 1 23 v1 rfl rfl) h1
  have k2 := h2
  have lt2 : ∀ x ∈ p2, x.block < W.heap.size := by obtain ⟨m, hm⟩ := k2; exact DataW.trod_lt m _ _ _ hm
  obtain ⟨z2, wf2, rp2⟩ := open_i Tryd.underlying3 (hval 2 3 v2 rfl rfl) h2
  clear hA0 hval0
  refine (Pure.law (main_pure nb0 l0 ln0 lk0 ll0 nb1 l1 ln1 lk1 ll1 z2 wf2) (of_laid hL) (lrep_cons rp0 (lrep_cons rp1 (lrep_cons rp2 LRep.nil)))).mono fun e W' ⟨he, bel⟩ => ?_
  subst he
  exact ⟨_, rfl, _, _, _, [], _, [], hW', trodAll_mk1 (shut_bool Tryd.underlying4 _), (trodAll_cons_mk (Below.trod laidOut (by kernel_rfl) (of_decide_eq_true (by kernel_rfl)) k0 bel lt0) (trodAll_cons_mk (Below.trod laidOut (by kernel_rfl) (of_decide_eq_true (by kernel_rfl)) k1 bel lt1) (trodAll_cons_mk (Below.trod laidOut (by kernel_rfl) (of_decide_eq_true (by kernel_rfl)) k2 bel lt2) trodAll_mk0))), rfl, bel.frame _, fun h => by cases h⟩

theorem over : Rows.possibleWitnessRow.holds Tryd.pinned (OpenSpec.ofChange Rows.possibleWitnessSpec) :=
  OpenClaim.holds_of_wide 6 Tryd.f6 rfl rfl rfl rfl rfl rfl rfl ⟨rfl, rfl, rfl, rfl, rfl⟩ rfl rfl rfl rfl rfl (by kernel_rfl) Tryd.func6 (by kernel_rfl)
    (of_decide_eq_true (by kernel_rfl)) (by unfold Func.isWrapper; first | (rw [if_pos (by decide +kernel)]; kernel_rfl) | (rw [if_neg (by decide +kernel)]; exact ⟨rfl, rfl⟩))
    (fun os started H enc _ => lifted os started H enc)
theorem card : Rows.PossibleWitnessCardSaid :=
  Claim7.holds_tied_plain_at .later [] [.data] true (true, "0ba69c9015ec36225fad3d349e9e33d8c719f02d1fa742a6aef5915b5d7b3d20") false
    over (fun _ h => by cases h) (by kernel_rfl) (fun _ h => by cases h) possibleWitness_row_tie rfl ⟨rfl, rfl⟩ (by kernel_rfl) rfl
    (fun f fn hf hfn => by
      obtain rfl : f = 6 := Option.some.inj ((show Tryd.prog.funcNamed "testamur/testamurlaw30.PossibleWitness" = some 6 by kernel_rfl).symm.trans hf) |>.symm
      obtain rfl : fn = Tryd.f6 := (Option.some.inj (Tryd.func6.symm.trans hfn)).symm
      exact ⟨by kernel_rfl, fun j t ht => by
        rw [Tryd.params6] at ht
        have hm : t ∈ [22, 23, 3] := by simpa using Array.mem_of_getElem? ht
        have hall : ([22, 23, 3].all fun u => !Tryd.prog.wantsStandIn u) = true := by kernel_rfl
        exact (show Tryd.prog.wantsStandIn t = false by simpa using List.all_eq_true.1 hall t hm)⟩)
    (by kernel_rfl)
end possibleWitness
theorem possibleWitness_holds : Rows.PossibleWitnessCardSaid := possibleWitness.card
#print axioms possibleWitness_holds

end Go.Proofs.YtffmgfehaahlhaaDoor
