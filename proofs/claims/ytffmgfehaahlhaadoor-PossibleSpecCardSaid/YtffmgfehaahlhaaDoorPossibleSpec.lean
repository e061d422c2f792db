import Derived.Test.YtffmgfehaahlhaaDoorPart5
import Derived.Test.YtffmgfehaahlhaaDoorTie
import Derived.Test.YtffmgfehaahlhaaDoorCards
set_option linter.all false
set_option linter.unusedSimpArgs false
set_option linter.unusedVariables false
set_option linter.unnecessarySimpa false
namespace Go.Proofs.YtffmgfehaahlhaaDoor
open Go.ChangeShapes Go.WideShapes Go.ChangeAt Go.RowKit
namespace possibleSpec
theorem few_big {I : List IssuedD} {S : List SeenD} (h : fewB I S = true) : BigI I ∧ BigS S ∧ I.length ≤ 12 ∧ S.length ≤ 5 := by
  simp only [fewB, Bool.and_eq_true, decide_eq_true_eq, List.all_eq_true] at h
  obtain ⟨h1, h2, h3, h4⟩ := h
  exact ⟨⟨by omega, fun x hx => by have := h1 x hx; omega⟩, ⟨by omega, fun x hx => by have := h2 x hx; omega, fun x hx => by have := h2 x hx; omega⟩, h3, h4⟩
set_option maxRecDepth 100000 in
set_option maxHeartbeats 4000000 in
theorem main_pure (ni : Bool) (I : List IssuedD) (hi1 : ni = true → I = []) (hi2 : ∀ x ∈ I, x.fine) (hi3 : I.length ≤ maxLen) (ns : Bool) (S : List SeenD) (hs1 : ns = true → S = []) (hs2 : ∀ x ∈ S, x.fine) (hs3 : S.length ≤ maxLen) (g : Int) (hg : InR .i64 g) : Pure Tryd.prog 4 [.slm 3 (some (.var ni)) IssuedD.c I, .slm 4 (some (.var ns)) SeenD.c S, i64 g] (boolD true) := by
  have hS := sane_pure
  rw [maxLen_eq] at hi3 hs3
  have hF := Few_pure I S (some (.var ni)) (some (.var ns)) hi3 hs3
  obtain ⟨fw, hfw⟩ : ∃ b, b = fewB I S := ⟨_, rfl⟩
  rw [← hfw] at hF
  have hO := fun h : fw = true => Of_pure I S g (some (.var ni)) (some (.var ns)) (few_big (hfw.symm.trans h)).1 (few_big (hfw.symm.trans h)).2.1
  have hQ := fun h : fw = true => ROf_pure I S g (some (.var ni)) (some (.var ns)) (few_big (hfw.symm.trans h)).1 (few_big (hfw.symm.trans h)).2.1
  have hA := fun h : fw = true => Any_pure I S (some (.var ni)) (some (.var ns)) (few_big (hfw.symm.trans h)).1 (few_big (hfw.symm.trans h)).2.1
  have hB := fun h : fw = true => RAny_pure I S (some (.var ni)) (some (.var ns)) (few_big (hfw.symm.trans h)).1 (few_big (hfw.symm.trans h)).2.1
  have hol : fw = true → (ofA I S g).length < 9223372036854775807 := fun h => by
    have h2 := (few_big (hfw.symm.trans h)).2.2.1
    have h3 := List.length_filter_le (fun p => !(firstR I S g p S.length []).isNone) (peopleL I)
    have h4 := people_len I I.length
    rw [List.take_of_length_le (Nat.le_refl _)] at h4
    unfold ofA ofR
    split
    · omega
    · simp
  have hal : fw = true → ((anyA I S).getD []).length < 9223372036854775807 := fun h => by
    have h2 := (few_big (hfw.symm.trans h)).2.2.2
    unfold anyA
    split
    · cases hf : firstR I S 0 (-1) S.length [] with
      | none => simp
      | some l =>
        have := (first_some S.length [] l (by simp) (good_nil I S 0 (-1)) hf).2.1
        simp only [Option.getD_some]
        omega
    · simp
  have hc1 := fun h na nb => SameInts_pure (ofA I S g) (ofA I S g) na nb (hol h)
  have hc2 := fun h na nb => SameInts_pure ((anyA I S).getD []) ((anyA I S).getD []) na nb (hal h)
  have e1 : (if okOf I S g then ofR I S g else []) = ofA I S g := rfl
  have e2 : optD (if checkB I S then firstR I S 0 (-1) S.length [] else none) = .slm 1 (some (.var (anyA I S).isNone)) intC ((anyA I S).getD []) := rfl
  have e3 : (checkB I S && !(firstR I S 0 (-1) S.length []).isNone) = (anyA I S).isSome := by
    unfold anyA
    cases checkB I S <;> cases firstR I S 0 (-1) S.length [] <;> rfl
  rw [e1] at hQ
  rw [e2, e3] at hB
  simp only [decide_true] at hc1 hc2
  obtain ⟨oA, hoA⟩ : ∃ l, l = ofA I S g := ⟨_, rfl⟩
  obtain ⟨aA, haA⟩ : ∃ l, l = (anyA I S).getD [] := ⟨_, rfl⟩
  obtain ⟨aS, haS⟩ : ∃ l, l = (anyA I S).isSome := ⟨_, rfl⟩
  obtain ⟨aN, haN⟩ : ∃ l, l = (anyA I S).isNone := ⟨_, rfl⟩
  obtain ⟨x1, hx1⟩ : ∃ x : Int, x = if okOf I S g then 0 else 300 := ⟨_, rfl⟩
  obtain ⟨x2, hx2⟩ : ∃ x : Int, x = if checkB I S then 0 else 300 := ⟨_, rfl⟩
  obtain ⟨b1, hb1⟩ : ∃ x, x = !okOf I S g := ⟨_, rfl⟩
  rw [← hoA, ← hx1] at hO
  rw [← hoA, ← hx1, ← hb1] at hQ
  rw [← haA, ← haS, ← hx2] at hA
  rw [← haA, ← haS, ← haN, ← hx2] at hB
  rw [← hoA] at hc1
  rw [← haA] at hc2
  obtain ⟨b2, hb2⟩ : ∃ x, x = decide (oA.length = 0) := ⟨_, rfl⟩
  obtain ⟨b3, hb3⟩ : ∃ x, x = decide (aA.length = 0) := ⟨_, rfl⟩
  rw [← hb2] at hO
  rw [← hb3] at hA
  clear hol hal e1 e2 e3 hoA haA haS haN hx1 hx2 hb1 hb2 hb3 hfw hi1 hi2 hi3 hs1 hs2 hs3 hg
  refine Pure.intro (want := [boolD true]) T_ok follows Tryd.func4 rfl (by kernel_rfl) (rs := [.tmp 6]) rfl (by kernel_rfl) ?_
  generalize hP : Tryd.prog = P at *
  have hT : T.ok P := hP ▸ T_ok
  have hm : P.follows .mixedOrders = true := hP ▸ follows
  unfold Tryd.f4
  dsimp only
  cbv
  refine CallP.pure _ hS rfl ?_
  cbv
  refine SplitP.mk (fun hs => ?_) (fun hs => ?_)
  · cases (show (!true) = true from hs)
  clear hs
  refine CallP.pure _ hF rfl ?_
  cbv
  refine SplitP.mk (fun hs => ?_) (fun hs => ?_)
  · exact .mk (.cons (.eq (.bool rfl)) .nil) rfl
  have h10 : fw = true := by simpa using (show (!fw) = false from hs)
  refine CallP.pure _ (hO h10) rfl ?_
  cbv
  refine CallP.pure _ (hQ h10) rfl ?_
  cbv
  refine CallP.pure _ (hA h10) rfl ?_
  cbv
  refine CallP.pure _ (hB h10) rfl ?_
  cbv
  refine CallP.pure _ (hc1 h10 _ _) rfl ?_
  cbv
  refine SplitP.mk (fun _ => ?_) (fun h => (by cases (show true = false from h)))
  refine SplitP.mk (fun _ => ?_) (fun h => (by have h3 : (x1 == x1) = false := h; simp at h3))
  refine CallP.pure _ (hc2 h10 _ _) rfl ?_
  cbv
  refine SplitP.mk (fun _ => ?_) (fun h => (by cases (show true = false from h)))
  refine SplitP.mk (fun _ => ?_) (fun h => (by have h3 : (aS == aS) = false := h; simp at h3))
  refine .mk (.cons (.eq (.bool ?_)) .nil) rfl
  show (x2 == x2) = true
  simp
theorem own : ownKnob Tryd.prog.godebug = none := by kernel_rfl
theorem laidOut : laidOutB Tryd.prog = true := by kernel_rfl
set_option maxRecDepth 100000 in
theorem lifted (os : Os) (started : os.Started) (H : Type) (enc : TypeId × Value → H) :
    ReturnsInHanded {} Tryd.checked os 4 .any (fun w args => (Rows.possibleSpecSpec.pre enc Tryd.prog Tryd.f4 [] false w args ∧ laidMetH Tryd.prog laidR w) ∧ sizedMet enc Tryd.prog Tryd.f4 (OpenSpec.ofChange Rows.possibleSpecSpec) false w args) (Rows.possibleSpecSpec.post enc Tryd.prog Tryd.f4 false true false false) := by
  refine returnsInHanded_of_change_and (C := Tryd.checked) (X := fun w _ => laidMetH Tryd.prog laidR w) (fun _ _ _ hh h => h.of_heap hh) own started (by kernel_rfl) Tryd.func4
    (ChangeSpec.witness_shaped (enc := enc) (C := Tryd.checked) (os := os) (X := fun w _ => laidMetH Tryd.prog laidR w) false (World.doorLaid Tryd.prog 400 os) #[.slice none 0 0, .slice none 0 0, .int .i64 0] 8 rfl (World.shaped_of_RefB (by kernel_rfl) (by kernel_rfl)) (by kernel_rfl) (by kernel_rfl) (by kernel_rfl) (door_met os _)) ?_
  intro W base args ds gs before hval0 hW _ _ hL _
  have hval : ∀ (j : Nat) t v, Tryd.f4.params[j]? = some t → args[j]? = some v → Value.okWide Tryd.prog W .any base t v := hval0
  have hW' := hW
  obtain ⟨p, q, hA0, hV, rfl, hfz, hnd⟩ := hW
  have hA : DataW.TrodAll enc Tryd.prog W 0 (fun _ => true) true Tryd.f4.params.toList args.toList ds p := hA0
  rw [Tryd.params4] at hA hval
  obtain ⟨v0, vs0, d0, ds0, p0, q0, hargs, rfl, rfl, h0, r0⟩ := trodAll_cons hA
  obtain ⟨v1, vs1, d1, ds1, p1, q1, rfl, rfl, rfl, h1, r1⟩ := trodAll_cons r0
  obtain ⟨v2, vs2, d2, ds2, p2, q2, rfl, rfl, rfl, h2, r2⟩ := trodAll_cons r1
  obtain ⟨rfl, rfl, rfl⟩ := trodAll_nil r2
  obtain rfl : args = #[v0, v1, v2] := by cases args; simp_all
  obtain ⟨rfl, rfl⟩ := trodVars_none hV
  have k0 := h0
  have lt0 : ∀ x ∈ p0, x.block < W.heap.size := by obtain ⟨m, hm⟩ := k0; exact DataW.trod_lt m _ _ _ hm
  obtain ⟨⟨nb0, l0⟩, ⟨ln0, lk0, ll0⟩, rp0⟩ := open_sl (e := 26) (by kernel_rfl) opd_issueds (hval 0 22 v0 rfl rfl) h0
  have k1 := h1
  have lt1 : ∀ x ∈ p1, x.block < W.heap.size := by obtain ⟨m, hm⟩ := k1; exact DataW.trod_lt m _ _ _ hm
  obtain ⟨⟨nb1, l1⟩, ⟨ln1, lk1, ll1⟩, rp1⟩ := open_sl (e := 28) (by kernel_rfl) opd_seens (hval 1 23 v1 rfl rfl) h1
  have k2 := h2
  have lt2 : ∀ x ∈ p2, x.block < W.heap.size := by obtain ⟨m, hm⟩ := k2; exact DataW.trod_lt m _ _ _ hm
  obtain ⟨z2, wf2, rp2⟩ := open_i Tryd.underlying3 (hval 2 3 v2 rfl rfl) h2
  clear hA0 hval0
  refine (Pure.law (main_pure nb0 l0 ln0 lk0 ll0 nb1 l1 ln1 lk1 ll1 z2 wf2) (of_laid hL) (lrep_cons rp0 (lrep_cons rp1 (lrep_cons rp2 LRep.nil)))).mono fun e W' ⟨he, bel⟩ => ?_
  subst he
  exact ⟨_, rfl, _, _, _, [], _, [], hW', trodAll_mk1 (shut_bool Tryd.underlying4 _), (trodAll_cons_mk (Below.trod laidOut (by kernel_rfl) (of_decide_eq_true (by kernel_rfl)) k0 bel lt0) (trodAll_cons_mk (Below.trod laidOut (by kernel_rfl) (of_decide_eq_true (by kernel_rfl)) k1 bel lt1) (trodAll_cons_mk (Below.trod laidOut (by kernel_rfl) (of_decide_eq_true (by kernel_rfl)) k2 bel lt2) trodAll_mk0))), rfl, bel.frame _, fun h => by cases h⟩

theorem over : Rows.possibleSpecRow.holds Tryd.pinned (OpenSpec.ofChange Rows.possibleSpecSpec) :=
  OpenClaim.holds_of_wide 4 Tryd.f4 rfl rfl rfl rfl rfl rfl rfl ⟨rfl, rfl, rfl, rfl, rfl⟩ rfl rfl rfl rfl rfl (by kernel_rfl) Tryd.func4 (by kernel_rfl)
    (of_decide_eq_true (by kernel_rfl)) (by unfold Func.isWrapper; first | (rw [if_pos (by decide +kernel)]; kernel_rfl) | (rw [if_neg (by decide +kernel)]; exact ⟨rfl, rfl⟩))
    (fun os started H enc _ => lifted os started H enc)
theorem card : Rows.PossibleSpecCardSaid :=
  Claim7.holds_tied_plain_at .later [] [.data] true (true, "0ba69c9015ec36225fad3d349e9e33d8c719f02d1fa742a6aef5915b5d7b3d20") false
    over (fun _ h => by cases h) (by kernel_rfl) (fun _ h => by cases h) possibleSpec_row_tie rfl ⟨rfl, rfl⟩ (by kernel_rfl) rfl
    (fun f fn hf hfn => by
      obtain rfl : f = 4 := Option.some.inj ((show Tryd.prog.funcNamed "testamur/testamurlaw30.PossibleSpec" = some 4 by kernel_rfl).symm.trans hf) |>.symm
      obtain rfl : fn = Tryd.f4 := (Option.some.inj (Tryd.func4.symm.trans hfn)).symm
      exact ⟨by kernel_rfl, fun j t ht => by
        rw [Tryd.params4] at ht
        have hm : t ∈ [22, 23, 3] := by simpa using Array.mem_of_getElem? ht
        have hall : ([22, 23, 3].all fun u => !Tryd.prog.wantsStandIn u) = true := by kernel_rfl
        exact (show Tryd.prog.wantsStandIn t = false by simpa using List.all_eq_true.1 hall t hm)⟩)
    (by kernel_rfl)
end possibleSpec
theorem possibleSpec_holds : Rows.PossibleSpecCardSaid := possibleSpec.card
#print axioms possibleSpec_holds

end Go.Proofs.YtffmgfehaahlhaaDoor
