import Derived.Test.YtffmgfehaahlhaaDoorPart5
import Derived.Test.YtffmgfehaahlhaaDoorTie
import Derived.Test.YtffmgfehaahlhaaDoorCards
set_option linter.all false
set_option linter.unusedSimpArgs false
set_option linter.unusedVariables false
set_option linter.unnecessarySimpa false
namespace Go.Proofs.YtffmgfehaahlhaaDoor
open Go.ChangeShapes Go.WideShapes Go.ChangeAt Go.RowKit
namespace possibleCheckSpec
set_option maxRecDepth 100000 in
set_option maxHeartbeats 4000000 in
theorem main_pure (ni : Bool) (I : List IssuedD) (hi1 : ni = true → I = []) (hi2 : ∀ x ∈ I, x.fine) (hi3 : I.length ≤ maxLen) (ns : Bool) (S : List SeenD) (hs1 : ns = true → S = []) (hs2 : ∀ x ∈ S, x.fine) (hs3 : S.length ≤ maxLen) (nc : Bool) (cs : List Int) (hc1 : nc = true → cs = []) (hc2 : ∀ x ∈ cs, True) (hc3 : cs.length ≤ maxLen) (x : IssuedD) (hx : x.fine) (s : SeenD) (hsf : s.fine) :
    Pure Tryd.prog 3 [.slm 3 (some (.var ni)) IssuedD.c I, .slm 4 (some (.var ns)) SeenD.c S, .slm 1 (some (.var nc)) intC cs, .agg x.c, .agg s.c] (boolD true) := by
  have hS := sane_pure
  rw [maxLen_eq] at hi3 hs3 hc3
  have hF := Few_pure I S (some (.var ni)) (some (.var ns)) hi3 hs3
  have hG := Pure.args (args' := [.slm 3 none IssuedD.c [x], .slm 4 none SeenD.c [s]]) (args := [.sll 3 [x.c], .sll 4 [s.c]]) (.cons (.sll rfl (fun e h => by cases h)) (.cons (.sll rfl (fun e h => by cases h)) .nil)) (Few_pure [x] [s] none none (by simp) (by simp))
  obtain ⟨fw, hfw⟩ : ∃ b, b = fewB I S := ⟨_, rfl⟩
  obtain ⟨f2, hf2⟩ : ∃ b, b = fewB [x] [s] := ⟨_, rfl⟩
  rw [← hfw] at hF
  rw [← hf2] at hG
  have hE := fun (h : fw = true) (h2 : cs.length ≤ 20) => Explains_pure I S cs (some (.var ni)) (some (.var ns)) (some (.var nc)) (few_big (hfw.symm.trans h)).1 (few_big (hfw.symm.trans h)).2.1 (by omega)
  have hR := fun (h : fw = true) (h2 : cs.length ≤ 20) => RExplains_pure I S cs (some (.var ni)) (some (.var ns)) (some (.var nc)) (few_big (hfw.symm.trans h)).1 (few_big (hfw.symm.trans h)).2.1 (by omega)
  have hC := fun h : fw = true => Check_pure I S (some (.var ni)) (some (.var ns)) (few_big (hfw.symm.trans h)).1 (few_big (hfw.symm.trans h)).2.1
  have hD := fun h : fw = true => RCheck_pure I S (some (.var ni)) (some (.var ns)) (few_big (hfw.symm.trans h)).1 (few_big (hfw.symm.trans h)).2.1
  have hB := fun h : f2 = true => few_big (hf2.symm.trans h)
  have hU := fun h : f2 = true => Fits_pure x s ((hB h).1.vals x (by simp)) ((hB h).2.1.fields s (by simp)) ((hB h).2.1.vals s (by simp))
  have hV := fun h : f2 = true => RFits_pure x s ((hB h).1.vals x (by simp)) ((hB h).2.1.fields s (by simp)) ((hB h).2.1.vals s (by simp))
  obtain ⟨e1, he1⟩ : ∃ x : Int, x = if checkB I S then 0 else 300 := ⟨_, rfl⟩
  obtain ⟨b1, hb1⟩ : ∃ b, b = (checkB I S && (decide (cs.length = S.length) && explB I S cs)) := ⟨_, rfl⟩
  obtain ⟨b2, hb2⟩ : ∃ b, b = fitsB x s := ⟨_, rfl⟩
  rw [← hb1, ← he1] at hE hR
  rw [← he1] at hC hD
  rw [← hb2] at hU hV
  obtain ⟨y1, y2, y3, y4⟩ := x
  obtain ⟨z1, z2, z3, z4, z5, z6⟩ := s
  clear hfw hf2 hB hb1 hb2 he1 hi1 hi2 hi3 hs1 hs2 hs3 hc1 hc2 hx hsf
  refine Pure.intro (want := [boolD true]) T_ok follows Tryd.func3 rfl (by kernel_rfl) (rs := [.tmp 10]) rfl (by kernel_rfl) ?_
  generalize hP : Tryd.prog = P at *
  have hT : T.ok P := hP ▸ T_ok
  have hm : P.follows .mixedOrders = true := hP ▸ follows
  unfold Tryd.f3
  dsimp only
  cbv
  refine CallP.pure _ hS rfl ?_
  cbv
  refine SplitP.mk (fun hs => ?_) (fun hs => ?_)
  · cases (show (!true) = true from hs)
  clear hs
  refine CallP.pure _ hF rfl ?_
  cbv
  refine SplitP.mk (fun hs => ?_) (fun hs => ?_)
  · exact .mk (.cons (.eq (.bool rfl)) .nil) rfl
  have h1 : fw = true := by simpa using (show (!fw) = false from hs)
  clear hs
  refine CallP.pure _ hG rfl ?_
  cbv
  refine SplitP.mk (fun hs => ?_) (fun hs => ?_)
  · exact .mk (.cons (.eq (.bool rfl)) .nil) rfl
  have h2 : f2 = true := by simpa using (show (!f2) = false from hs)
  clear hs
  refine SplitP.mk (fun hs => ?_) (fun hs => ?_)
  · exact .mk (.cons (.eq (.bool rfl)) .nil) rfl
  have h3 : cs.length ≤ 20 := by
    have : decide ((cs.length : Int) > 20) = false := hs
    have := of_decide_eq_false this
    omega
  clear hs
  refine CallP.pure _ (hE h1 h3) rfl ?_
  cbv
  refine CallP.pure _ (hR h1 h3) rfl ?_
  cbv
  refine DrawP.mk (by kernel_rfl) ?_
  cbv
  refine SplitP.mk (fun _ => ?_) (fun h => (by have h3 : (b1 == b1) = false := h; simp at h3))
  refine SplitP.mk (fun _ => ?_) (fun h => (by have h3 : (e1 == e1) = false := h; simp at h3))
  refine .mk _ (hC h1) rfl ?_
  cbv
  refine .mk _ (hD h1) rfl ?_
  cbv
  refine SplitP.mk (fun _ => ?_) (fun h => (by have h3 : (e1 == e1) = false := h; simp at h3))
  refine .mk _ (hU h2) rfl ?_
  cbv
  refine CallP.pure _ (hV h2) rfl ?_
  cbv
  refine .mk (.cons (.eq (.bool ?_)) .nil) rfl
  show (b2 == b2) = true
  simp
theorem own : ownKnob Tryd.prog.godebug = none := by kernel_rfl
theorem laidOut : laidOutB Tryd.prog = true := by kernel_rfl
set_option maxRecDepth 100000 in
theorem lifted (os : Os) (started : os.Started) (H : Type) (enc : TypeId × Value → H) :
    ReturnsInHanded {} Tryd.checked os 3 .any (fun w args => (Rows.possibleCheckSpecSpec.pre enc Tryd.prog Tryd.f3 [] false w args ∧ laidMetH Tryd.prog laidR w) ∧ sizedMet enc Tryd.prog Tryd.f3 (OpenSpec.ofChange Rows.possibleCheckSpecSpec) false w args) (Rows.possibleCheckSpecSpec.post enc Tryd.prog Tryd.f3 false true false false) := by
  refine returnsInHanded_of_change_and (C := Tryd.checked) (X := fun w _ => laidMetH Tryd.prog laidR w) (fun _ _ _ hh h => h.of_heap hh) own started (by kernel_rfl) Tryd.func3
    (ChangeSpec.witness_shaped (enc := enc) (C := Tryd.checked) (os := os) (X := fun w _ => laidMetH Tryd.prog laidR w) false (World.doorLaid Tryd.prog 400 os) #[.slice none 0 0, .slice none 0 0, .slice none 0 0, .agg #[.int .i64 0, .int .i64 0, .slice none 0 0], .agg #[.int .i64 0, .int .i64 0, .slice none 0 0, .slice none 0 0]] 8 rfl (World.shaped_of_RefB (by kernel_rfl) (by kernel_rfl)) (by kernel_rfl) (by kernel_rfl) (by kernel_rfl) (door_met os _)) ?_
  intro W base args ds gs before hval0 hW _ _ hL _
  have hval : ∀ (j : Nat) t v, Tryd.f3.params[j]? = some t → args[j]? = some v → Value.okWide Tryd.prog W .any base t v := hval0
  have hW' := hW
  obtain ⟨p, q, hA0, hV, rfl, hfz, hnd⟩ := hW
  have hA : DataW.TrodAll enc Tryd.prog W 0 (fun _ => true) true Tryd.f3.params.toList args.toList ds p := hA0
  rw [Tryd.params3] at hA hval
  obtain ⟨v0, vs0, d0, ds0, p0, q0, hargs, rfl, rfl, h0, r0⟩ := trodAll_cons hA
  obtain ⟨v1, vs1, d1, ds1, p1, q1, rfl, rfl, rfl, h1, r1⟩ := trodAll_cons r0
  obtain ⟨v2, vs2, d2, ds2, p2, q2, rfl, rfl, rfl, h2, r2⟩ := trodAll_cons r1
  obtain ⟨v3, vs3, d3, ds3, p3, q3, rfl, rfl, rfl, h3, r3⟩ := trodAll_cons r2
  obtain ⟨v4, vs4, d4, ds4, p4, q4, rfl, rfl, rfl, h4, r4⟩ := trodAll_cons r3
  obtain ⟨rfl, rfl, rfl⟩ := trodAll_nil r4
  obtain rfl : args = #[v0, v1, v2, v3, v4] := by cases args; simp_all
  obtain ⟨rfl, rfl⟩ := trodVars_none hV
  have k0 := h0
  have lt0 : ∀ x ∈ p0, x.block < W.heap.size := by obtain ⟨m, hm⟩ := k0; exact DataW.trod_lt m _ _ _ hm
  obtain ⟨⟨nb0, l0⟩, ⟨ln0, lk0, ll0⟩, rp0⟩ := open_sl (e := 26) (by kernel_rfl) opd_issueds (hval 0 22 v0 rfl rfl) h0
  have k1 := h1
  have lt1 : ∀ x ∈ p1, x.block < W.heap.size := by obtain ⟨m, hm⟩ := k1; exact DataW.trod_lt m _ _ _ hm
  obtain ⟨⟨nb1, l1⟩, ⟨ln1, lk1, ll1⟩, rp1⟩ := open_sl (e := 28) (by kernel_rfl) opd_seens (hval 1 23 v1 rfl rfl) h1
  have k2 := h2
  have lt2 : ∀ x ∈ p2, x.block < W.heap.size := by obtain ⟨m, hm⟩ := k2; exact DataW.trod_lt m _ _ _ hm
  obtain ⟨⟨nb2, l2⟩, ⟨ln2, lk2, ll2⟩, rp2⟩ := open_sl (e := 3) (by kernel_rfl) opd_ints (hval 2 24 v2 rfl rfl) h2
  have k3 := h3
  have lt3 : ∀ x ∈ p3, x.block < W.heap.size := by obtain ⟨m, hm⟩ := k3; exact DataW.trod_lt m _ _ _ hm
  obtain ⟨s3, sf3, rp3⟩ := open_st Tryd.underlying26 opd_issued (hval 3 26 v3 rfl rfl) h3
  have k4 := h4
  have lt4 : ∀ x ∈ p4, x.block < W.heap.size := by obtain ⟨m, hm⟩ := k4; exact DataW.trod_lt m _ _ _ hm
  obtain ⟨s4, sf4, rp4⟩ := open_st Tryd.underlying28 opd_seen (hval 4 28 v4 rfl rfl) h4
  clear hA0 hval0
  refine (Pure.law (main_pure nb0 l0 ln0 lk0 ll0 nb1 l1 ln1 lk1 ll1 nb2 l2 ln2 lk2 ll2 s3 sf3 s4 sf4) (of_laid hL) (lrep_cons rp0 (lrep_cons rp1 (lrep_cons rp2 (lrep_cons rp3 (lrep_cons rp4 LRep.nil)))))).mono fun e W' ⟨he, bel⟩ => ?_
  subst he
  exact ⟨_, rfl, _, _, _, [], _, [], hW', trodAll_mk1 (shut_bool Tryd.underlying4 _), (trodAll_cons_mk (Below.trod laidOut (by kernel_rfl) (of_decide_eq_true (by kernel_rfl)) k0 bel lt0) (trodAll_cons_mk (Below.trod laidOut (by kernel_rfl) (of_decide_eq_true (by kernel_rfl)) k1 bel lt1) (trodAll_cons_mk (Below.trod laidOut (by kernel_rfl) (of_decide_eq_true (by kernel_rfl)) k2 bel lt2) (trodAll_cons_mk (Below.trod laidOut (by kernel_rfl) (of_decide_eq_true (by kernel_rfl)) k3 bel lt3) (trodAll_cons_mk (Below.trod laidOut (by kernel_rfl) (of_decide_eq_true (by kernel_rfl)) k4 bel lt4) trodAll_mk0))))), rfl, bel.frame _, fun h => by cases h⟩

theorem over : Rows.possibleCheckSpecRow.holds Tryd.pinned (OpenSpec.ofChange Rows.possibleCheckSpecSpec) :=
  OpenClaim.holds_of_wide 3 Tryd.f3 rfl rfl rfl rfl rfl rfl rfl ⟨rfl, rfl, rfl, rfl, rfl⟩ rfl rfl rfl rfl rfl (by kernel_rfl) Tryd.func3 (by kernel_rfl)
    (of_decide_eq_true (by kernel_rfl)) (by unfold Func.isWrapper; first | (rw [if_pos (by decide +kernel)]; kernel_rfl) | (rw [if_neg (by decide +kernel)]; exact ⟨rfl, rfl⟩))
    (fun os started H enc _ => lifted os started H enc)
theorem card : Rows.PossibleCheckSpecCardSaid :=
  Claim7.holds_tied_plain_at .later [] [.data] true (true, "0ba69c9015ec36225fad3d349e9e33d8c719f02d1fa742a6aef5915b5d7b3d20") false
    over (fun _ h => by cases h) (by kernel_rfl) (fun _ h => by cases h) possibleCheckSpec_row_tie rfl ⟨rfl, rfl⟩ (by kernel_rfl) rfl
    (fun f fn hf hfn => by
      obtain rfl : f = 3 := Option.some.inj ((show Tryd.prog.funcNamed "testamur/testamurlaw30.PossibleCheckSpec" = some 3 by kernel_rfl).symm.trans hf) |>.symm
      obtain rfl : fn = Tryd.f3 := (Option.some.inj (Tryd.func3.symm.trans hfn)).symm
      exact ⟨by kernel_rfl, fun j t ht => by
        rw [Tryd.params3] at ht
        have hm : t ∈ [22, 23, 24, 26, 28] := by simpa using Array.mem_of_getElem? ht
        have hall : ([22, 23, 24, 26, 28].all fun u => !Tryd.prog.wantsStandIn u) = true := by kernel_rfl
        exact (show Tryd.prog.wantsStandIn t = false by simpa using List.all_eq_true.1 hall t hm)⟩)
    (by kernel_rfl)
end possibleCheckSpec
theorem possibleCheckSpec_holds : Rows.PossibleCheckSpecCardSaid := possibleCheckSpec.card
#print axioms possibleCheckSpec_holds

end Go.Proofs.YtffmgfehaahlhaaDoor
