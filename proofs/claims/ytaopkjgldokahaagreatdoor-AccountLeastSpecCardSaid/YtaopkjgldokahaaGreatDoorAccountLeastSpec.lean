import Derived.Test.YtaopkjgldokahaaGreatDoorPart6
import Derived.Test.YtaopkjgldokahaaGreatDoorTie
import Derived.Test.YtaopkjgldokahaaGreatDoorCards
set_option linter.all false
set_option linter.unusedSimpArgs false
set_option linter.unusedVariables false
set_option linter.unnecessarySimpa false
namespace Go.Proofs.YtaopkjgldokahaaGreatDoor
open Go.ChangeShapes Go.WideShapes Go.ChangeAt Go.RowKit
namespace accountLeastSpec
set_option maxRecDepth 100000 in
set_option maxHeartbeats 4000000 in
theorem main_pure (a : AccountD) (ha : a.fine) (s : SightD) (hs' : s.fine) : Pure Tryz.prog 4 [.agg a.c, .agg s.c] (boolD true) := by
  have hN := sane_pure
  have hF := Few31_pure a (by have := ha.li; rw [maxLen_eq] at this; exact this)
  have hG := FewSight_pure s
  have hfit := fun h : fewA a = true => fewA_fit h ha
  have hs1 : s.seen.fields.length < 9223372036854775807 ∧ s.seen.values.length < 9223372036854775807 ∨ fewS s = false := by
    cases hq : fewS s with
    | false => exact .inr rfl
    | true =>
      unfold fewS fewB at hq
      simp at hq
      omega
  have hs2 := fun h : fewS s = true => hs1.resolve_right (by rw [h]; simp)
  have hA := fun (h : fewA a = true) (h2 : fewS s = true) => After_pure a s (hfit h) (hs2 h2).1 (hs2 h2).2
  have hR := fun (h : fewA a = true) (h2 : fewS s = true) => RAfter_pure a s (hfit h) (hs2 h2).1 (hs2 h2).2
  have hL := fun (h : fewA a = true) => Least_pure a (hfit h).big.sets (fun x hx => ((hfit h).big.gl x hx).1)
  have hM := fun (h : fewA a = true) => RLeast_pure a (hfit h).big.sets (fun x hx => ((hfit h).big.gl x hx).1)
  obtain ⟨fa, hfa⟩ : ∃ b, b = fewA a := ⟨_, rfl⟩
  obtain ⟨fs, hfs⟩ : ∃ b, b = fewS s := ⟨_, rfl⟩
  obtain ⟨n, hn⟩ : ∃ b, b = afterN a s := ⟨_, rfl⟩
  obtain ⟨e, he⟩ : ∃ b, b = afterE a s := ⟨_, rfl⟩
  obtain ⟨m, hm2⟩ : ∃ b, b = leastL a.sets := ⟨_, rfl⟩
  rw [← hfa] at hF hA hR hL hM
  rw [← hfs] at hG hA hR
  rw [← hn, ← he] at hA hR
  rw [← hm2] at hL hM
  clear hfa hfs hn he hm2 hs1 hs2 hfit ha hs'
  obtain ⟨ai, aI, ac, C, as_, S, az, Z⟩ := a
  obtain ⟨v, tk, ⟨y1, y2, y3, y4, y5, y6⟩⟩ := s
  refine Pure.intro (want := [boolD true]) T_ok follows Tryz.func4 rfl (by kernel_rfl) (rs := [.tmp 4]) rfl (by kernel_rfl) ?_
  generalize hP : Tryz.prog = P at *
  have hT : T.ok P := hP ▸ T_ok
  have hm : P.follows .mixedOrders = true := hP ▸ follows
  unfold Tryz.f4
  dsimp only
  cbv
  first
    | refine CallP.pure _ (hN) rfl ?_
    | refine PureP.mk _ (hN) rfl ?_
  cbv
  refine SplitP.mk (fun hs => ?_) (fun hs => ?_)
  · cases (show (!true) = true from hs)
  clear hs
  first
    | refine CallP.pure _ (hF) rfl ?_
    | refine PureP.mk _ (hF) rfl ?_
  cbv
  refine SplitP.mk (fun hs => ?_) (fun hs => ?_)
  · exact .mk (.cons (.eq (.bool rfl)) .nil) rfl
  have q1 : fa = true := by simpa using (show (!fa) = false from hs)
  clear hs
  first
    | refine CallP.pure _ (hG) rfl ?_
    | refine PureP.mk _ (hG) rfl ?_
  cbv
  refine SplitP.mk (fun hs => ?_) (fun hs => ?_)
  · exact .mk (.cons (.eq (.bool rfl)) .nil) rfl
  have q2 : fs = true := by simpa using (show (!fs) = false from hs)
  clear hs
  first
    | refine CallP.pure _ ((hA q1 q2)) rfl ?_
    | refine PureP.mk _ ((hA q1 q2)) rfl ?_
  cbv
  first
    | refine CallP.pure _ ((hR q1 q2)) rfl ?_
    | refine PureP.mk _ ((hR q1 q2)) rfl ?_
  cbv
  first
    | refine CallP.pure _ ((hL q1)) rfl ?_
    | refine PureP.mk _ ((hL q1)) rfl ?_
  cbv
  first
    | refine CallP.pure _ ((hM q1)) rfl ?_
    | refine PureP.mk _ ((hM q1)) rfl ?_
  cbv
  refine SplitP.mk (fun _ => ?_) (fun h => (by have h3 : (m == m) = false := h; simp at h3))
  refine SplitP.mk (fun _ => ?_) (fun h => (by have h3 : (n == n) = false := h; simp at h3))
  refine .mk (.cons (.eq (.bool ?_)) .nil) rfl
  show (e == e) = true
  simp
theorem own : ownKnob Tryz.prog.godebug = none := by kernel_rfl
theorem laidOut : laidOutB Tryz.prog = true := by kernel_rfl
set_option maxRecDepth 100000 in
theorem lifted (os : Os) (started : os.Started) (H : Type) (enc : TypeId × Value → H) :
    ReturnsInHanded {} Tryz.checked os 4 .any (fun w args => (Rows.accountLeastSpecSpec.pre enc Tryz.prog Tryz.f4 [] false w args ∧ laidMetH Tryz.prog laidR w) ∧ sizedMet enc Tryz.prog Tryz.f4 (OpenSpec.ofChange Rows.accountLeastSpecSpec) false w args) (Rows.accountLeastSpecSpec.post enc Tryz.prog Tryz.f4 false true false false) := by
  refine returnsInHanded_of_change_and (C := Tryz.checked) (X := fun w _ => laidMetH Tryz.prog laidR w) (fun _ _ _ hh h => h.of_heap hh) own started (by kernel_rfl) Tryz.func4
    (ChangeSpec.witness_shaped (enc := enc) (C := Tryz.checked) (os := os) (X := fun w _ => laidMetH Tryz.prog laidR w) false (World.doorLaid Tryz.prog 400 os) #[.agg #[.slice none 0 0, .slice none 0 0, .slice none 0 0, .slice none 0 0], .agg #[.int .i64 0, .int .u8 0, .int .u8 0, .int .u8 0, .int .u8 0, .int .u8 0, .int .u8 0, .int .u8 0, .int .u8 0, .int .u8 0, .int .u8 0, .int .u8 0, .int .u8 0, .int .u8 0, .int .u8 0, .int .u8 0, .int .u8 0, .int .u8 0, .int .u8 0, .int .u8 0, .int .u8 0, .int .u8 0, .int .u8 0, .int .u8 0, .int .u8 0, .int .u8 0, .int .u8 0, .int .u8 0, .int .u8 0, .int .u8 0, .int .u8 0, .int .u8 0, .int .u8 0, .int .i64 0, .int .i64 0, .slice none 0 0, .slice none 0 0]] 8 rfl (World.shaped_of_RefB (by kernel_rfl) (by kernel_rfl)) (by kernel_rfl) (by kernel_rfl) (by kernel_rfl) (door_met os _)) ?_
  intro W base args ds gs before hval0 hW _ hSz hL _
  have hval : ∀ (j : Nat) t v, Tryz.f4.params[j]? = some t → args[j]? = some v → Value.okWide Tryz.prog W .any base t v := hval0
  have hW' := hW
  obtain ⟨p, q, hA0, hV, rfl, hfz, hnd⟩ := hW
  have hA : DataW.TrodAll enc Tryz.prog W 0 (fun _ => true) true Tryz.f4.params.toList args.toList ds p := hA0
  rw [Tryz.params4] at hA hval
  obtain ⟨v0, vs0, d0, ds0, p0, q0, hargs, rfl, rfl, h0, r0⟩ := trodAll_cons hA
  obtain ⟨v1, vs1, d1, ds1, p1, q1, rfl, rfl, rfl, h1, r1⟩ := trodAll_cons r0
  obtain ⟨rfl, rfl, rfl⟩ := trodAll_nil r1
  obtain rfl : args = #[v0, v1] := by cases args; simp_all
  obtain ⟨rfl, rfl⟩ := trodVars_none hV
  have k0 := h0
  have lt0 : ∀ x ∈ p0, x.block < W.heap.size := by obtain ⟨m, hm⟩ := k0; exact DataW.trod_lt m _ _ _ hm
  obtain ⟨s0, sf0, rp0⟩ := open_st Tryz.underlying27 opd_account (hval 0 27 v0 rfl rfl) h0
  have k1 := h1
  have lt1 : ∀ x ∈ p1, x.block < W.heap.size := by obtain ⟨m, hm⟩ := k1; exact DataW.trod_lt m _ _ _ hm
  obtain ⟨s1, sf1, rp1⟩ := open_st Tryz.underlying34 opd_sight (hval 1 34 v1 rfl rfl) h1
  clear hA0 hval0
  refine (Pure.law (main_pure s0 sf0 s1 sf1) (of_laid hL) (lrep_cons rp0 (lrep_cons rp1 LRep.nil))).mono fun e W' ⟨he, bel⟩ => ?_
  subst he
  exact ⟨_, rfl, _, _, _, [], _, [], hW', trodAll_mk1 (shut_bool Tryz.underlying4 _), (trodAll_cons_mk (Below.trod laidOut (by kernel_rfl) (of_decide_eq_true (by kernel_rfl)) k0 bel lt0) (trodAll_cons_mk (Below.trod laidOut (by kernel_rfl) (of_decide_eq_true (by kernel_rfl)) k1 bel lt1) trodAll_mk0)), rfl, bel.frame _, fun h => by cases h⟩

theorem over : Rows.accountLeastSpecRow.holds Tryz.pinned (OpenSpec.ofChange Rows.accountLeastSpecSpec) :=
  OpenClaim.holds_of_wide 4 Tryz.f4 rfl rfl rfl rfl rfl rfl rfl ⟨rfl, rfl, rfl, rfl, rfl⟩ rfl rfl rfl rfl rfl (by kernel_rfl) Tryz.func4 (by kernel_rfl)
    (of_decide_eq_true (by kernel_rfl)) (by unfold Func.isWrapper; first | (rw [if_pos (by decide +kernel)]; kernel_rfl) | (rw [if_neg (by decide +kernel)]; exact ⟨rfl, rfl⟩))
    (fun os started H enc _ => lifted os started H enc)
theorem card : Rows.AccountLeastSpecCardSaid :=
  Claim7.holds_tied_plain_at .later [] [.data] true (true, "e3215ff07f36fd82d29b001a642a137cc2cdfbaa3f6c570a3ea52fe3b696adc5") false
    over (fun _ h => by cases h) (by kernel_rfl) (fun _ h => by cases h) accountLeastSpec_row_tie rfl ⟨rfl, rfl⟩ (by kernel_rfl) rfl
    (fun f fn hf hfn => by
      obtain rfl : f = 4 := Option.some.inj ((show Tryz.prog.funcNamed "testamur/testamurlaw31.AccountLeastSpec" = some 4 by kernel_rfl).symm.trans hf) |>.symm
      obtain rfl : fn = Tryz.f4 := (Option.some.inj (Tryz.func4.symm.trans hfn)).symm
      exact ⟨by kernel_rfl, fun j t ht => by
        rw [Tryz.params4] at ht
        have hm : t ∈ [27, 34] := by simpa using Array.mem_of_getElem? ht
        have hall : ([27, 34].all fun u => !Tryz.prog.wantsStandIn u) = true := by kernel_rfl
        exact (show Tryz.prog.wantsStandIn t = false by simpa using List.all_eq_true.1 hall t hm)⟩)
    (by kernel_rfl)
end accountLeastSpec
theorem accountLeastSpec_holds : Rows.AccountLeastSpecCardSaid := accountLeastSpec.card
#print axioms accountLeastSpec_holds

end Go.Proofs.YtaopkjgldokahaaGreatDoor
