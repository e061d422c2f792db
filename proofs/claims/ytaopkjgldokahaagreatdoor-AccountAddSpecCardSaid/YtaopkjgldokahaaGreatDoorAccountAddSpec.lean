import Derived.Test.YtaopkjgldokahaaGreatDoorPart6
import Derived.Test.YtaopkjgldokahaaGreatDoorTie
import Derived.Test.YtaopkjgldokahaaGreatDoorCards
set_option linter.all false
set_option linter.unusedSimpArgs false
set_option linter.unusedVariables false
set_option linter.unnecessarySimpa false
namespace Go.Proofs.YtaopkjgldokahaaGreatDoor
open Go.ChangeShapes Go.WideShapes Go.ChangeAt Go.RowKit
namespace accountAddSpec
set_option maxRecDepth 100000 in
set_option maxHeartbeats 4000000 in
theorem main_pure (ni : Bool) (I : List IssuedD) (hi1 : ni = true → I = []) (hi2 : ∀ x ∈ I, x.fine) (hi3 : I.length ≤ maxLen) (nc : Bool) (C : List CoalD) (hc1 : nc = true → C = []) (hc2 : ∀ x ∈ C, x.fine) (hc3 : C.length ≤ maxLen)
    (a : AccountD) (ha : a.fine) (s : SightD) (hs' : s.fine) (nl : Bool) (L : List IssuedD) (hl1 : nl = true → L = []) (hl2 : ∀ x ∈ L, x.fine) (hl3 : L.length ≤ maxLen) :
    Pure Tryz.prog 3 [.slm 3 (some (.var ni)) IssuedD.c I, .slm 1 (some (.var nc)) CoalD.c C, .agg a.c, .agg s.c, .slm 3 (some (.var nl)) IssuedD.c L] (boolD true) := by
  have hN := sane_pure
  have m := maxLen_eq
  have hF := Few31_pure a (by have := ha.li; rw [maxLen_eq] at this; exact this)
  have hB0f : (⟨ni, I, nc, C, true, [], true, []⟩ : AccountD).fine := ⟨hi1, hi2, hi3, hc1, hc2, hc3, fun _ => rfl, by simp, by simp, fun _ => rfl, by simp, by simp⟩
  have hB0 := Few31_pure ⟨ni, I, nc, C, true, [], true, []⟩ (by simp only; omega)
  have hG := FewSight_pure s
  have hH := Few_pure L [] (some (.var nl)) none (by omega) (by simp)
  have hfit := fun h : fewA a = true => fewA_fit h ha
  have hfit0 := fun h : fewA ⟨ni, I, nc, C, true, [], true, []⟩ = true => fewA_fit h hB0f
  have hI1 := fun h : fewA ⟨ni, I, nc, C, true, [], true, []⟩ = true => (show I.length ≤ 1000000 by
    unfold fewA fewB at h
    simp only [Bool.and_eq_true, decide_eq_true_eq] at h
    have := h.2.2.2.2.2.1
    omega)
  have hs1 : s.seen.fields.length < 9223372036854775807 ∧ s.seen.values.length < 9223372036854775807 ∨ fewS s = false := by
    cases hq : fewS s with
    | false => exact .inr rfl
    | true =>
      unfold fewS fewB at hq
      simp at hq
      omega
  have hs2 := fun h : fewS s = true => hs1.resolve_right (by rw [h]; simp)
  have hL1 := fun h : fewB L [] = true => (show (∀ x ∈ L, x.values.length ≤ 16) ∧ L.length ≤ 12 by
    unfold fewB at h
    simp only [Bool.and_eq_true, decide_eq_true_eq, List.all_eq_true] at h
    exact ⟨h.1, h.2.2.1⟩)
  have hNw := fun h : fewA ⟨ni, I, nc, C, true, [], true, []⟩ = true => New_pure ni I nc C hi1 hc1 (hfit0 h).big.iss (hfit0 h).big.coal (hfit0 h).big.cl
  have hQ := fun h : fewA ⟨ni, I, nc, C, true, [], true, []⟩ = true => RNew_pure ni I nc C (hfit0 h).big.iss (hfit0 h).big.coal (hfit0 h).big.cl
  have hA := fun (h : fewA a = true) (h2 : fewS s = true) => Add_pure a s (hfit h).big (hfit h).si ha.ns (hs2 h2).1 (hs2 h2).2
  have hR := fun (h : fewA a = true) (h2 : fewS s = true) => RAdd_pure a s (hfit h).big (hfit h).si (hs2 h2).1 (hs2 h2).2
  have hU := fun (h : fewA a = true) (h2 : fewB L [] = true) => Issue_pure a L nl (hfit h) ha.ni (fun x hx => by have := (hL1 h2).1 x hx; omega) (by have := (hL1 h2).2; omega)
  have hV := fun (h : fewA a = true) (h2 : fewB L [] = true) => RIssue_pure a L nl (hfit h) (fun x hx => by have := (hL1 h2).1 x hx; omega) (by have := (hL1 h2).2; omega)
  have hC := fun (h : fewA a = true) => Check31_pure a (hfit h).big (hfit h).si
  have hD := fun (h : fewA a = true) => RCheck31_pure a (hfit h).big (hfit h).si
  have hS1 := fun (h : fewA ⟨ni, I, nc, C, true, [], true, []⟩ = true) => Same_pure (newA ni I nc C) (rnewA ni I nc C) (new_fit hi1 hc1 (hfit0 h) (hI1 h)).big
  have hS2 := fun (h : fewA a = true) (h2 : fewS s = true) => Same_pure (addA a s) (raddA a s) (addA_fit (hfit h) (hs2 h2).1 (hs2 h2).2).big
  have hS3 := fun (h : fewA a = true) (h2 : fewB L [] = true) => Same_pure (issueA a L) (rissueA a L) (iss_fit (hfit h) (fun x hx => by have := (hL1 h2).1 x hx; omega) (by have := (hL1 h2).2; omega)).big
  simp only [same_new, same_add, same_issue] at hS1 hS2 hS3
  obtain ⟨f0, hf0⟩ : ∃ b, b = fewA ⟨ni, I, nc, C, true, [], true, []⟩ := ⟨_, rfl⟩
  obtain ⟨fa, hfa⟩ : ∃ b, b = fewA a := ⟨_, rfl⟩
  obtain ⟨fs, hfs⟩ : ∃ b, b = fewS s := ⟨_, rfl⟩
  obtain ⟨fl, hfl⟩ : ∃ b, b = fewB L [] := ⟨_, rfl⟩
  obtain ⟨e1, he1⟩ : ∃ b, b = newE I C := ⟨_, rfl⟩
  obtain ⟨x1, hx1⟩ : ∃ b, b = newA ni I nc C := ⟨_, rfl⟩
  obtain ⟨y1, hy1⟩ : ∃ b, b = rnewA ni I nc C := ⟨_, rfl⟩
  obtain ⟨e2, he2⟩ : ∃ b, b = addE a s := ⟨_, rfl⟩
  obtain ⟨x2, hx2⟩ : ∃ b, b = addA a s := ⟨_, rfl⟩
  obtain ⟨y2, hy2⟩ : ∃ b, b = raddA a s := ⟨_, rfl⟩
  obtain ⟨e3, he3⟩ : ∃ b, b = issueE a L := ⟨_, rfl⟩
  obtain ⟨x3, hx3⟩ : ∃ b, b = issueA a L := ⟨_, rfl⟩
  obtain ⟨y3, hy3⟩ : ∃ b, b = rissueA a L := ⟨_, rfl⟩
  obtain ⟨c, hc⟩ : ∃ c : Int, c = if checkA a then 0 else 310 := ⟨_, rfl⟩
  rw [← hf0] at hB0 hNw hQ hS1
  rw [← hfa] at hF hA hR hU hV hC hD hS2 hS3
  rw [← hfs] at hG hA hR hS2
  rw [← hfl] at hH hU hV hS3
  rw [← hx1, ← he1] at hNw
  rw [← hy1, ← he1] at hQ
  rw [← hx1, ← hy1] at hS1
  rw [← hx2, ← he2] at hA
  rw [← hy2, ← he2] at hR
  rw [← hx2, ← hy2] at hS2
  rw [← hx3, ← he3] at hU
  rw [← hy3, ← he3] at hV
  rw [← hx3, ← hy3] at hS3
  rw [← hc] at hC hD
  clear hf0 hfa hfs hfl he1 hx1 hy1 he2 hx2 hy2 he3 hx3 hy3 hc hs1 hs2 hL1 hI1 hfit hfit0 ha hs' hB0f hi1 hi2 hi3 hc1 hc2 hc3 hl1 hl2 hl3 m
  obtain ⟨ai, aI, ac, aC, as_, S, az, Z⟩ := a
  obtain ⟨v, tk, ⟨z1, z2, z3, z4, z5, z6⟩⟩ := s
  obtain ⟨a1, a2, a3, a4, a5, a6, a7, a8⟩ := x1
  obtain ⟨b1, b2, b3, b4, b5, b6, b7, b8⟩ := y1
  obtain ⟨c1, c2, c3, c4, c5, c6, c7, c8⟩ := x2
  obtain ⟨d1, d2, d3, d4, d5, d6, d7, d8⟩ := y2
  obtain ⟨g1, g2, g3, g4, g5, g6, g7, g8⟩ := x3
  obtain ⟨h1, h2, h3, h4, h5, h6, h7, h8⟩ := y3
  refine Pure.introC (want := [boolD true]) T_ok Tryz.func3 rfl (by kernel_rfl) (rs := [.tmp 10]) rfl (by kernel_rfl) ?_
  generalize hP : Tryz.prog = P at *
  have hT : T.ok P := hP ▸ T_ok
  have hm : P.follows .mixedOrders = true := hP ▸ follows
  unfold Tryz.f3
  dsimp only
  refine CodeP.seq (vc_sound hT hm _ ?_)
  cbv
  refine CodeP.seq (vc_sound hT hm _ ?_)
  cbv
  first
    | refine CallP.pure _ (hN) rfl ?_
    | refine PureP.mk _ (hN) rfl ?_
  cbv
  refine SplitP.mk (fun hs => ?_) (fun hs => ?_)
  · cases (show (!true) = true from hs)
  clear hs
  refine CodeP.seq (vc_sound hT hm _ ?_)
  cbv
  refine CallP.pure _ (Pure.args (.cons (acct_eq (.refl _) (.refl _) (.nilv rfl rfl) (.nilv rfl rfl)) .nil) hB0) rfl ?_
  cbv
  refine SplitP.mk (fun hs => ?_) (fun hs => ?_)
  · exact .mk (.cons (.eq (.bool rfl)) .nil) rfl
  have q0 : f0 = true := by simpa using (show (!f0) = false from hs)
  clear hs
  first
    | refine CallP.pure _ (hF) rfl ?_
    | refine PureP.mk _ (hF) rfl ?_
  cbv
  refine SplitP.mk (fun hs => ?_) (fun hs => ?_)
  · exact .mk (.cons (.eq (.bool rfl)) .nil) rfl
  have q1 : fa = true := by simpa using (show (!fa) = false from hs)
  clear hs
  first
    | refine CallP.pure _ (hG) rfl ?_
    | refine PureP.mk _ (hG) rfl ?_
  cbv
  refine SplitP.mk (fun hs => ?_) (fun hs => ?_)
  · exact .mk (.cons (.eq (.bool rfl)) .nil) rfl
  have q2 : fs = true := by simpa using (show (!fs) = false from hs)
  clear hs
  refine CallP.pure _ (Pure.args (.cons (.refl _) (.cons (.nil0 rfl) .nil)) hH) rfl ?_
  cbv
  refine SplitP.mk (fun hs => ?_) (fun hs => ?_)
  · exact .mk (.cons (.eq (.bool rfl)) .nil) rfl
  have q3 : fl = true := by simpa using (show (!fl) = false from hs)
  clear hs
  replace hNw := hNw q0
  replace hQ := hQ q0
  replace hS1 := hS1 q0
  replace hA := hA q1 q2
  replace hR := hR q1 q2
  replace hS2 := hS2 q1 q2
  replace hU := hU q1 q3
  replace hV := hV q1 q3
  replace hS3 := hS3 q1 q3
  replace hC := hC q1
  replace hD := hD q1
  clear hN hB0 hF hG hH q0 q1 q2 q3
  refine CodeP.seq (vc_sound hT hm _ ?_)
  cbv
  first
    | refine CallP.pure _ (hNw) rfl ?_
    | refine PureP.mk _ (hNw) rfl ?_
  cbv
  refine CodeP.keep [0, 1, 4, 7, 8, 11, 12] ?_
  refine CodeP.seq (vc_sound hT hm _ ?_)
  cbv
  first
    | refine CallP.pure _ (hQ) rfl ?_
    | refine PureP.mk _ (hQ) rfl ?_
  cbv
  refine CodeP.keep [4, 7, 8, 11, 12, 13, 14] ?_
  refine CodeP.seq (vc_sound hT hm _ ?_)
  cbv
  first
    | refine CallP.pure _ (hA) rfl ?_
    | refine PureP.mk _ (hA) rfl ?_
  cbv
  refine CodeP.keep [4, 7, 8, 11, 12, 13, 14, 15, 16] ?_
  refine CodeP.seq (vc_sound hT hm _ ?_)
  cbv
  first
    | refine CallP.pure _ (hR) rfl ?_
    | refine PureP.mk _ (hR) rfl ?_
  cbv
  refine CodeP.keep [4, 7, 8, 11, 12, 13, 14, 15, 16, 17, 18] ?_
  refine CodeP.seq (vc_sound hT hm _ ?_)
  cbv
  first
    | refine CallP.pure _ (hU) rfl ?_
    | refine PureP.mk _ (hU) rfl ?_
  cbv
  refine CodeP.keep [4, 7, 8, 11, 12, 13, 14, 15, 16, 17, 18, 19, 20] ?_
  refine CodeP.seq (vc_sound hT hm _ ?_)
  cbv
  first
    | refine CallP.pure _ (hV) rfl ?_
    | refine PureP.mk _ (hV) rfl ?_
  cbv
  refine CodeP.keep [7, 8, 11, 12, 13, 14, 15, 16, 17, 18, 19, 20, 21, 22] ?_
  clear hNw hQ hA hR hU hV
  refine vc_sound hT hm _ ?_
  cbv
  refine ⟨by kernel_rfl, ?_⟩
  cbv
  first
    | refine CallP.pure _ (hS1) rfl ?_
    | refine PureP.mk _ (hS1) rfl ?_
  cbv
  refine SplitP.mk (fun _ => ?_) (fun h => (by cases (show true = false from h)))
  refine SplitP.mk (fun _ => ?_) (fun h => (by have h3 : (e1 == e1) = false := h; simp at h3))
  first
    | refine CallP.pure _ (hS2) rfl ?_
    | refine PureP.mk _ (hS2) rfl ?_
  cbv
  refine SplitP.mk (fun _ => ?_) (fun h => (by cases (show true = false from h)))
  refine SplitP.mk (fun _ => ?_) (fun h => (by have h3 : (e2 == e2) = false := h; simp at h3))
  first
    | refine CallP.pure _ (hS3) rfl ?_
    | refine PureP.mk _ (hS3) rfl ?_
  cbv
  refine SplitP.mk (fun _ => ?_) (fun h => (by cases (show true = false from h)))
  refine SplitP.mk (fun _ => ?_) (fun h => (by have h3 : (e3 == e3) = false := h; simp at h3))
  first
    | refine CallP.pure _ (hC) rfl ?_
    | refine PureP.mk _ (hC) rfl ?_
  cbv
  first
    | refine CallP.pure _ (hD) rfl ?_
    | refine PureP.mk _ (hD) rfl ?_
  cbv
  refine .mk (.cons (.eq (.bool ?_)) .nil) rfl
  show (c == c) = true
  simp
theorem own : ownKnob Tryz.prog.godebug = none := by kernel_rfl
theorem laidOut : laidOutB Tryz.prog = true := by kernel_rfl
set_option maxRecDepth 100000 in
theorem lifted (os : Os) (started : os.Started) (H : Type) (enc : TypeId × Value → H) :
    ReturnsInHanded {} Tryz.checked os 3 .any (fun w args => (Rows.accountAddSpecSpec.pre enc Tryz.prog Tryz.f3 [] false w args ∧ laidMetH Tryz.prog laidR w) ∧ sizedMet enc Tryz.prog Tryz.f3 (OpenSpec.ofChange Rows.accountAddSpecSpec) false w args) (Rows.accountAddSpecSpec.post enc Tryz.prog Tryz.f3 false true false false) := by
  refine returnsInHanded_of_change_and (C := Tryz.checked) (X := fun w _ => laidMetH Tryz.prog laidR w) (fun _ _ _ hh h => h.of_heap hh) own started (by kernel_rfl) Tryz.func3
    (ChangeSpec.witness_shaped (enc := enc) (C := Tryz.checked) (os := os) (X := fun w _ => laidMetH Tryz.prog laidR w) false (World.doorLaid Tryz.prog 400 os) #[.slice none 0 0, .slice none 0 0, .agg #[.slice none 0 0, .slice none 0 0, .slice none 0 0, .slice none 0 0], .agg #[.int .i64 0, .int .u8 0, .int .u8 0, .int .u8 0, .int .u8 0, .int .u8 0, .int .u8 0, .int .u8 0, .int .u8 0, .int .u8 0, .int .u8 0, .int .u8 0, .int .u8 0, .int .u8 0, .int .u8 0, .int .u8 0, .int .u8 0, .int .u8 0, .int .u8 0, .int .u8 0, .int .u8 0, .int .u8 0, .int .u8 0, .int .u8 0, .int .u8 0, .int .u8 0, .int .u8 0, .int .u8 0, .int .u8 0, .int .u8 0, .int .u8 0, .int .u8 0, .int .u8 0, .int .i64 0, .int .i64 0, .slice none 0 0, .slice none 0 0], .slice none 0 0] 8 rfl (World.shaped_of_RefB (by kernel_rfl) (by kernel_rfl)) (by kernel_rfl) (by kernel_rfl) (by kernel_rfl) (door_met os _)) ?_
  intro W base args ds gs before hval0 hW _ hSz hL _
  have hval : ∀ (j : Nat) t v, Tryz.f3.params[j]? = some t → args[j]? = some v → Value.okWide Tryz.prog W .any base t v := hval0
  have hW' := hW
  obtain ⟨p, q, hA0, hV, rfl, hfz, hnd⟩ := hW
  have hA : DataW.TrodAll enc Tryz.prog W 0 (fun _ => true) true Tryz.f3.params.toList args.toList ds p := hA0
  rw [Tryz.params3] at hA hval
  obtain ⟨v0, vs0, d0, ds0, p0, q0, hargs, rfl, rfl, h0, r0⟩ := trodAll_cons hA
  obtain ⟨v1, vs1, d1, ds1, p1, q1, rfl, rfl, rfl, h1, r1⟩ := trodAll_cons r0
  obtain ⟨v2, vs2, d2, ds2, p2, q2, rfl, rfl, rfl, h2, r2⟩ := trodAll_cons r1
  obtain ⟨v3, vs3, d3, ds3, p3, q3, rfl, rfl, rfl, h3, r3⟩ := trodAll_cons r2
  obtain ⟨v4, vs4, d4, ds4, p4, q4, rfl, rfl, rfl, h4, r4⟩ := trodAll_cons r3
  obtain ⟨rfl, rfl, rfl⟩ := trodAll_nil r4
  obtain rfl : args = #[v0, v1, v2, v3, v4] := by cases args; simp_all
  obtain ⟨rfl, rfl⟩ := trodVars_none hV
  have k0 := h0
  have lt0 : ∀ x ∈ p0, x.block < W.heap.size := by obtain ⟨m, hm⟩ := k0; exact DataW.trod_lt m _ _ _ hm
  obtain ⟨⟨nb0, l0⟩, ⟨ln0, lk0, ll0⟩, rp0⟩ := open_sl (e := 52) (by kernel_rfl) opd_issueds (hval 0 22 v0 rfl rfl) h0
  have k1 := h1
  have lt1 : ∀ x ∈ p1, x.block < W.heap.size := by obtain ⟨m, hm⟩ := k1; exact DataW.trod_lt m _ _ _ hm
  obtain ⟨⟨nb1, l1⟩, ⟨ln1, lk1, ll1⟩, rp1⟩ := open_sl (e := 30) (by kernel_rfl) opd_coals (hval 1 23 v1 rfl rfl) h1
  have k2 := h2
  have lt2 : ∀ x ∈ p2, x.block < W.heap.size := by obtain ⟨m, hm⟩ := k2; exact DataW.trod_lt m _ _ _ hm
  obtain ⟨s2, sf2, rp2⟩ := open_st Tryz.underlying27 opd_account (hval 2 27 v2 rfl rfl) h2
  have k3 := h3
  have lt3 : ∀ x ∈ p3, x.block < W.heap.size := by obtain ⟨m, hm⟩ := k3; exact DataW.trod_lt m _ _ _ hm
  obtain ⟨s3, sf3, rp3⟩ := open_st Tryz.underlying34 opd_sight (hval 3 34 v3 rfl rfl) h3
  have k4 := h4
  have lt4 : ∀ x ∈ p4, x.block < W.heap.size := by obtain ⟨m, hm⟩ := k4; exact DataW.trod_lt m _ _ _ hm
  obtain ⟨⟨nb4, l4⟩, ⟨ln4, lk4, ll4⟩, rp4⟩ := open_sl (e := 52) (by kernel_rfl) opd_issueds (hval 4 22 v4 rfl rfl) h4
  clear hA0 hval0
  refine (Pure.law (main_pure nb0 l0 ln0 lk0 ll0 nb1 l1 ln1 lk1 ll1 s2 sf2 s3 sf3 nb4 l4 ln4 lk4 ll4) (of_laid hL) (lrep_cons rp0 (lrep_cons rp1 (lrep_cons rp2 (lrep_cons rp3 (lrep_cons rp4 LRep.nil)))))).mono fun e W' ⟨he, bel⟩ => ?_
  subst he
  exact ⟨_, rfl, _, _, _, [], _, [], hW', trodAll_mk1 (shut_bool Tryz.underlying4 _), (trodAll_cons_mk (Below.trod laidOut (by kernel_rfl) (of_decide_eq_true (by kernel_rfl)) k0 bel lt0) (trodAll_cons_mk (Below.trod laidOut (by kernel_rfl) (of_decide_eq_true (by kernel_rfl)) k1 bel lt1) (trodAll_cons_mk (Below.trod laidOut (by kernel_rfl) (of_decide_eq_true (by kernel_rfl)) k2 bel lt2) (trodAll_cons_mk (Below.trod laidOut (by kernel_rfl) (of_decide_eq_true (by kernel_rfl)) k3 bel lt3) (trodAll_cons_mk (Below.trod laidOut (by kernel_rfl) (of_decide_eq_true (by kernel_rfl)) k4 bel lt4) trodAll_mk0))))), rfl, bel.frame _, fun h => by cases h⟩

theorem over : Rows.accountAddSpecRow.holds Tryz.pinned (OpenSpec.ofChange Rows.accountAddSpecSpec) :=
  OpenClaim.holds_of_wide 3 Tryz.f3 rfl rfl rfl rfl rfl rfl rfl ⟨rfl, rfl, rfl, rfl, rfl⟩ rfl rfl rfl rfl rfl (by kernel_rfl) Tryz.func3 (by kernel_rfl)
    (of_decide_eq_true (by kernel_rfl)) (by unfold Func.isWrapper; first | (rw [if_pos (by decide +kernel)]; kernel_rfl) | (rw [if_neg (by decide +kernel)]; exact ⟨rfl, rfl⟩))
    (fun os started H enc _ => lifted os started H enc)
theorem card : Rows.AccountAddSpecCardSaid :=
  Claim7.holds_tied_plain_at .later [] [.data] true (true, "e3215ff07f36fd82d29b001a642a137cc2cdfbaa3f6c570a3ea52fe3b696adc5") false
    over (fun _ h => by cases h) (by kernel_rfl) (fun _ h => by cases h) accountAddSpec_row_tie rfl ⟨rfl, rfl⟩ (by kernel_rfl) rfl
    (fun f fn hf hfn => by
      obtain rfl : f = 3 := Option.some.inj ((show Tryz.prog.funcNamed "testamur/testamurlaw31.AccountAddSpec" = some 3 by kernel_rfl).symm.trans hf) |>.symm
      obtain rfl : fn = Tryz.f3 := (Option.some.inj (Tryz.func3.symm.trans hfn)).symm
      exact ⟨by kernel_rfl, fun j t ht => by
        rw [Tryz.params3] at ht
        have hm : t ∈ [22, 23, 27, 34, 22] := by simpa using Array.mem_of_getElem? ht
        have hall : ([22, 23, 27, 34, 22].all fun u => !Tryz.prog.wantsStandIn u) = true := by kernel_rfl
        exact (show Tryz.prog.wantsStandIn t = false by simpa using List.all_eq_true.1 hall t hm)⟩)
    (by kernel_rfl)
end accountAddSpec
theorem accountAddSpec_holds : Rows.AccountAddSpecCardSaid := accountAddSpec.card
#print axioms accountAddSpec_holds

end Go.Proofs.YtaopkjgldokahaaGreatDoor
